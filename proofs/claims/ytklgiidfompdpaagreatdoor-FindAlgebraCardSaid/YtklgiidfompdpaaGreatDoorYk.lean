/- What the closing leans on: part 11. -/
import Derived.Test.YtklgiidfompdpaaGreatDoorYj
namespace Go.Proofs.YtklgiidfompdpaaGreatDoor
open Go Go.Sl Go.Gv Go.Kv Go.Po Go.Ix Go.Stb
set_option maxRecDepth 100000
abbrev cmpR : Value := .func (.func 115) #[] #[]
abbrev rsA (a : Option Addr) (c : Nat) (l : List Rec) : HProp := sl 32 5 recC a c l
theorem swapR_spec (a : Option Addr) (c : Nat) {D X M Y E : List Rec} {p q k : Int} (hp : p = (D.length : Nat)) (hq : q = ((D.length + X.length + M.length : Nat) : Int)) (hk : k = (X.length : Nat)) (h : X.length = Y.length) {n : Nat} (hn : n = (D ++ (X ++ (M ++ (Y ++ E)))).length) (hl : n ≤ 100000) :
   Ct Tryz.prog 270 [.slice a n c, int p, int q, int k, cmpR] [rsA a c (D ++ (X ++ (M ++ (Y ++ E))))] (fun v hs => v = .tuple #[] ∧ hs = [rsA a c (D ++ (Y ++ (M ++ (X ++ E))))]) := by
 have hln : n = D.length + (X.length + (M.length + (Y.length + E.length))) := by rw [hn]; simp
 rw [← swS_0 D X M Y E]
 refine Cti Tryz.func270 (by kernel_rfl) 38 Tryz.ntmps270 rfl rfl fun w0 R => ?_
 refine Gs.slAddr (xs := swS D X M Y E 0) (SlH.own (E := 32) (enc := recC) (by repeat constructor)) fun ab ao ha => ?_
 refine Gsr (Las rfl rfl (Lnt (Gs.block (Gs.loop1 (fun i : Nat => i ≤ X.length) (fun i => [(0, .slice a n c), (1, int p), (2, int q), (3, int k), (10, int i)]) (fun i => [rsA a c (swS D X M Y E i)] ++ R) (fun i => X.length - i) 0 (Nat.zero_le _) (by repeat constructor) (by repeat constructor) (fun i hi => ?_)))))
 refine Gs.seq (Gsr (Lmv rfl rfl (Lmv rfl rfl (Lq rfl (pu_lt rfl rfl) (Lnt (Gs.cond rfl (fun hc0 => ?_) (fun hc0 => ?_)))))))
 ·
  have hlt : i < X.length := by have := of_decide_eq_true hc0; omega
  obtain ⟨x, hx⟩ := some_at hlt
  obtain ⟨y, hy⟩ := some_at (l := Y) (i := i) (by omega)
  have hne : swS D X M Y E 0 ≠ [] := fun e => by
    have h0 := swS_len (D := D) (M := M) (E := E) (i := 0) h (Nat.zero_le _)
    rw [e, ← hn] at h0; simp at h0; omega
  obtain rfl := ha hne
  have hsw := swS_at (D := D) (M := M) (E := E) hx hy
  have hs1 := swS_s (D := D) (M := M) (E := E) hx hy
  obtain ⟨hpa, hpb⟩ := swS_pos (D := D) (M := M) h hlt
  have gx : (swS D X M Y E i)[(p + (i : Int)).toNat]? = some x := getA hsw (by omega)
  have gy : (swS D X M Y E i)[(q + (i : Int)).toNat]? = some y := getB hsw (by omega)
  have hne2 : (p + (i : Int)).toNat ≠ (q + (i : Int)).toNat := by omega
  have gy2 : ((swS D X M Y E i).set (p + (i : Int)).toNat y)[(q + (i : Int)).toNat]? = some y := by rw [List.getElem?_set_ne hne2]; exact gy
  have hset : ((swS D X M Y E i).set (p + (i : Int)).toNat y).set (q + (i : Int)).toNat x = swS D X M Y E (i + 1) := by rw [hs1]; exact swap_at hsw (by omega) (by omega)
  refine Gs.skip (Gn (Gs.seq (Gs.block (Gs.regD mixed (by kernel_rfl) (Rmv 0 rfl (by kernel_rfl) rfl (Rmv 1 rfl (by kernel_rfl) rfl (Rmv 2 rfl (by kernel_rfl) rfl (Rq 3 rfl (by kernel_rfl) (by first | exact pu_addI rfl rfl rfl (by omega) (by omega) | exact pu_add rfl rfl) ?_))))))))
  refine Rmv 4 rfl (by kernel_rfl) rfl (Rmv 5 rfl (by kernel_rfl) rfl (Rmv 6 rfl (by kernel_rfl) rfl (Rq 7 rfl (by kernel_rfl) (by first | exact pu_addI rfl rfl rfl (by omega) (by omega) | exact pu_add rfl rfl) ?_)))
  refine Rmv 8 rfl (by kernel_rfl) rfl (Rmv 9 rfl (by kernel_rfl) rfl (Rmv 10 rfl (by kernel_rfl) rfl (Rq 11 rfl (by kernel_rfl) (by first | exact pu_addI rfl rfl rfl (by omega) (by omega) | exact pu_add rfl rfl) ?_)))
  refine Rq 12 rfl (by kernel_rfl) (pu_ia se_41 rfl rfl (by omega) (by omega)) (Rr 13 rfl (by kernel_rfl) (rd_lda ag_32 rfl (Rdc.el0 (SlH.own (xs := swS D X M Y E i) (E := 32) (enc := recC) (sz := 5) (by repeat constructor)) gy rfl rfl) rfl) ?_)
  refine Rmv 14 rfl (by kernel_rfl) rfl (Rmv 15 rfl (by kernel_rfl) rfl (Rmv 16 rfl (by kernel_rfl) rfl (Rq 17 rfl (by kernel_rfl) (by first | exact pu_addI rfl rfl rfl (by omega) (by omega) | exact pu_add rfl rfl) ?_)))
  refine Rq 18 rfl (by kernel_rfl) (pu_ia se_41 rfl rfl (by omega) (by omega)) (Rr 19 rfl (by kernel_rfl) (rd_lda ag_32 rfl (Rdc.el0 (SlH.own (xs := swS D X M Y E i) (E := 32) (enc := recC) (sz := 5) (by repeat constructor)) gx rfl rfl) rfl) ?_)
  refine Rq 20 rfl (by kernel_rfl) (pu_ia se_41 rfl rfl (by omega) (by omega)) (Rg.one (by kernel_rfl) (Stp.ac0 21 rfl rfl (by kernel_rfl) trivial (ac_stE (enc := recC) (xs := swS D X M Y E i) (i := (p + (i : Int)).toNat) (x0 := x) (y0 := y) (vs := recC y) (fo := 0) sz_32 ek_32 rfl rfl (by repeat constructor) rfl rfl rfl gx rfl rfl)  ?_))
  rintro _ _ rfl
  refine Rq 22 rfl (by kernel_rfl) (pu_ia se_41 rfl rfl (by omega) (by omega)) (Rg.one (by kernel_rfl) (Stp.ac0 23 rfl rfl (by kernel_rfl) trivial (ac_stE (enc := recC) (xs := (swS D X M Y E i).set (p + (i : Int)).toNat y) (i := (q + (i : Int)).toNat) (x0 := y) (y0 := x) (vs := recC x) (fo := 0) sz_32 ek_32 rfl rfl (by repeat constructor) rfl rfl rfl gy2 rfl rfl)  ?_))
  rintro _ _ rfl
  refine Rg.end (by kernel_rfl) ?_
  rw [hset]
  refine Gs.blk_n (Gn (Gs.reg (Lmv rfl rfl (Lq rfl (by first | exact pu_addI rfl rfl rfl (by omega) (by omega) | exact pu_add rfl rfl) ?_))))
  refine Las rfl rfl (Lnt ?_)
  exact Ag (i + 1) hlt (by omega)
 have hge : i = X.length := by have := of_decide_eq_false hc0; omega
 rw [hge, swS_n h]
 refine Gs.exit (Gx (Gx (Gs.blk_hit (Gs.fin_n ?_))))
 exact Gs.fin0 Tryz.results270 _ (⟨rfl, rfl⟩) (by repeat constructor)
structure RotS where
 D : List Rec
 X : List Rec
 Y : List Rec
 E : List Rec
theorem rotR_spec (a : Option Addr) (c : Nat) {D U V E : List Rec} {p q b : Int} (hp : p = (D.length : Nat)) (hq : q = ((D.length + U.length : Nat) : Int)) (hb : b = ((D.length + U.length + V.length : Nat) : Int)) (hU : U ≠ []) (hV : V ≠ []) {n : Nat} (hn : n = (D ++ (U ++ (V ++ E))).length) (hl : n ≤ 100000) :
   Ct Tryz.prog 251 [.slice a n c, int p, int q, int b, cmpR] [rsA a c (D ++ (U ++ (V ++ E)))] (fun v hs => v = .tuple #[] ∧ hs = [rsA a c (D ++ (V ++ (U ++ E)))]) := by
 have hUl := List.length_pos_iff.2 hU
 have hVl := List.length_pos_iff.2 hV
 have hln : n = D.length + (U.length + (V.length + E.length)) := by rw [hn]; simp
 obtain ⟨T, hT⟩ : ∃ T, T = D ++ (V ++ (U ++ E)) := ⟨_, rfl⟩
 rw [← hT]
 refine Cti Tryz.func251 (by kernel_rfl) 58 Tryz.ntmps251 rfl rfl fun w0 R => ?_
 refine Gsr (Lmv rfl rfl (Lmv rfl rfl (Lq rfl (by first | exact pu_subI rfl rfl rfl (by omega) (by omega) | exact pu_sub rfl rfl) ?_)))
 refine Las rfl rfl (Lnil ?_)
 rw [show q - p = ((U.length : Nat) : Int) by omega]
 refine Gn (Gsr (Lmv rfl rfl (Lmv rfl rfl (Lq rfl (by first | exact pu_subI rfl rfl rfl (by omega) (by omega) | exact pu_sub rfl rfl) ?_))))
 refine Las rfl rfl (Lnil ?_)
 rw [show b - q = ((V.length : Nat) : Int) by omega]
 refine Gn (Gs.seq (Gs.block (Gs.loop1 (fun s : RotS => 0 < s.X.length ∧ 0 < s.Y.length ∧ q = ((s.D.length + s.X.length : Nat) : Int) ∧ n = s.D.length + (s.X.length + (s.Y.length + s.E.length)) ∧ s.D ++ (s.Y ++ (s.X ++ s.E)) = T) (fun s => [(0, .slice a n c), (1, int p), (2, int q), (3, int b), (4, cmpR), (10, int s.X.length), (11, int s.Y.length)]) (fun s => [rsA a c (s.D ++ (s.X ++ (s.Y ++ s.E)))] ++ R) (fun s => s.X.length + s.Y.length) ⟨D, U, V, E⟩ (⟨hUl, hVl, hq, hln, hT.symm⟩) (by repeat constructor) (by repeat constructor) (fun s hs => ?_))))
 obtain ⟨D', X, Y, E'⟩ := s
 obtain ⟨hX, hY, hq', hn', hTs⟩ := hs
 dsimp only at hX hY hq' hn' hTs ⊢
 refine Gs.seq (Gsr (Lmv rfl rfl (Lmv rfl rfl (Lq rfl (pu_ne rfl rfl) (Lnt (Gs.cond rfl (fun hc0 => ?_) (fun hc0 => ?_)))))))
 ·
  have hne : X.length ≠ Y.length := fun e => (of_decide_eq_true hc0) (by rw [e])
  refine Gs.skip (Gn (Gs.block (Gsr (Lmv rfl rfl (Lmv rfl rfl (Lq rfl (pu_gt rfl rfl) (Lnt (Gs.cond rfl (fun hc1 => ?_) (fun hc1 => ?_)))))))))
  ·
   have hgt : Y.length < X.length := by have := of_decide_eq_true hc1; omega
   have hX12 : X = X.take Y.length ++ X.drop Y.length := (List.take_append_drop _ _).symm
   obtain ⟨X1, hX1⟩ : ∃ z, z = X.take Y.length := ⟨_, rfl⟩
   obtain ⟨X2, hX2⟩ : ∃ z, z = X.drop Y.length := ⟨_, rfl⟩
   rw [← hX1, ← hX2] at hX12
   have h1l : X1.length = Y.length := by rw [hX1, List.length_take]; omega
   have h2l : X2.length = X.length - Y.length := by rw [hX2, List.length_drop]
   have hlist : D' ++ (X ++ (Y ++ E')) = D' ++ (X1 ++ (X2 ++ (Y ++ E'))) := by rw [hX12]; simp
   have hT2 : (D' ++ Y) ++ (X1 ++ (X2 ++ E')) = T := by rw [← hTs, hX12]; simp
   have hres : D' ++ (Y ++ (X2 ++ (X1 ++ E'))) = (D' ++ Y) ++ (X2 ++ (X1 ++ E')) := by simp
   rw [hlist]
   refine Gsr (Lmv rfl rfl (Lmv rfl rfl (Lmv rfl rfl (Lq rfl (by first | exact pu_subI rfl rfl rfl (by omega) (by omega) | exact pu_sub rfl rfl) ?_))))
   refine Lmv rfl rfl (Lmv rfl rfl (Lmv rfl rfl (La rfl (asC (swapR_spec a c (p := q - (X.length : Int)) (q := q) (k := (Y.length : Int)) (n := n) (D := D') (X := X1) (M := X2) (Y := Y) (E := E') (by omega) (by omega) (by omega) h1l (by simp; omega) hl)) ?_)))
   rintro _ _ ⟨_, ⟨rfl, rfl⟩, rfl⟩
   refine Lnt (Gs.reg (Lmv rfl rfl (Lmv rfl rfl (Lq rfl (by first | exact pu_subI rfl rfl rfl (by omega) (by omega) | exact pu_sub rfl rfl) ?_))))
   refine Las rfl rfl (Lnil ?_)
   rw [hres, show (X.length : Int) - (Y.length : Int) = (X2.length : Int) by omega, show Y.length = X1.length from h1l.symm]
   refine Gs.blk_n (Gn ?_)
   first | exact Ag (⟨D' ++ Y, X2, X1, E'⟩ : RotS) ⟨by show 0 < X2.length; omega, by show 0 < X1.length; omega, by show q = (((D' ++ Y).length + X2.length : Nat) : Int); rw [List.length_append]; omega, by show n = (D' ++ Y).length + (X2.length + (X1.length + E'.length)); rw [List.length_append]; omega, hT2⟩ (by show X2.length + X1.length < X.length + Y.length; omega) | exact Ag (⟨D', Y2, Y1, X ++ E'⟩ : RotS) ⟨by show 0 < Y2.length; omega, by show 0 < Y1.length; omega, by show q = ((D'.length + Y2.length : Nat) : Int); omega, by show n = D'.length + (Y2.length + (Y1.length + (X ++ E').length)); rw [List.length_append]; omega, hT2⟩ (by show Y2.length + Y1.length < X.length + Y.length; omega)
  have hgt : X.length < Y.length := by have := of_decide_eq_false hc1; omega
  have hY12 : Y = Y.take (Y.length - X.length) ++ Y.drop (Y.length - X.length) := (List.take_append_drop _ _).symm
  obtain ⟨Y1, hY1⟩ : ∃ z, z = Y.take (Y.length - X.length) := ⟨_, rfl⟩
  obtain ⟨Y2, hY2⟩ : ∃ z, z = Y.drop (Y.length - X.length) := ⟨_, rfl⟩
  rw [← hY1, ← hY2] at hY12
  have h1l : Y1.length = Y.length - X.length := by rw [hY1, List.length_take]; omega
  have h2l : Y2.length = X.length := by rw [hY2, List.length_drop]; omega
  have hlist : D' ++ (X ++ (Y ++ E')) = D' ++ (X ++ (Y1 ++ (Y2 ++ E'))) := by rw [hY12]; simp
  have hT2 : D' ++ (Y1 ++ (Y2 ++ (X ++ E'))) = T := by rw [← hTs, hY12]; simp
  have hres : D' ++ (Y2 ++ (Y1 ++ (X ++ E'))) = D' ++ (Y2 ++ (Y1 ++ (X ++ E'))) := rfl
  rw [hlist]
  refine Gsr (Lmv rfl rfl (Lmv rfl rfl (Lmv rfl rfl (Lq rfl (by first | exact pu_subI rfl rfl rfl (by omega) (by omega) | exact pu_sub rfl rfl) ?_))))
  refine Lmv rfl rfl (Lmv rfl rfl (Lq rfl (by first | exact pu_addI rfl rfl rfl (by omega) (by omega) | exact pu_add rfl rfl) ?_))
  refine Lmv rfl rfl (Lq rfl (by first | exact pu_subI rfl rfl rfl (by omega) (by omega) | exact pu_sub rfl rfl) ?_)
  refine Lmv rfl rfl (Lmv rfl rfl (La rfl (asC (swapR_spec a c (p := q - (X.length : Int)) (q := q + (Y.length : Int) - (X.length : Int)) (k := (X.length : Int)) (n := n) (D := D') (X := X) (M := Y1) (Y := Y2) (E := E') (by omega) (by omega) (by omega) h2l.symm (by simp; omega) hl)) ?_))
  rintro _ _ ⟨_, ⟨rfl, rfl⟩, rfl⟩
  refine Lnt (Gs.reg (Lmv rfl rfl (Lmv rfl rfl (Lq rfl (by first | exact pu_subI rfl rfl rfl (by omega) (by omega) | exact pu_sub rfl rfl) ?_))))
  refine Las rfl rfl (Lnil ?_)
  rw [show (Y.length : Int) - (X.length : Int) = (Y1.length : Int) by omega, show X.length = Y2.length from h2l.symm]
  refine Gs.blk_n (Gn ?_)
  first | exact Ag (⟨D' ++ Y, X2, X1, E'⟩ : RotS) ⟨by show 0 < X2.length; omega, by show 0 < X1.length; omega, by show q = (((D' ++ Y).length + X2.length : Nat) : Int); rw [List.length_append]; omega, by show n = (D' ++ Y).length + (X2.length + (X1.length + E'.length)); rw [List.length_append]; omega, hT2⟩ (by show X2.length + X1.length < X.length + Y.length; omega) | exact Ag (⟨D', Y2, Y1, X ++ E'⟩ : RotS) ⟨by show 0 < Y2.length; omega, by show 0 < Y1.length; omega, by show q = ((D'.length + Y2.length : Nat) : Int); omega, by show n = D'.length + (Y2.length + (Y1.length + (X ++ E').length)); rw [List.length_append]; omega, hT2⟩ (by show Y2.length + Y1.length < X.length + Y.length; omega)
 have heq : X.length = Y.length := by have := of_decide_eq_false hc0; omega
 refine Gs.exit (Gx (Gx (Gs.blk_hit (Gn (Gs.reg (Lmv rfl rfl (Lmv rfl rfl (Lmv rfl rfl (Lq rfl (by first | exact pu_subI rfl rfl rfl (by omega) (by omega) | exact pu_sub rfl rfl) ?_)))))))))
 refine Lmv rfl rfl (Lmv rfl rfl (Lmv rfl rfl (La rfl (asC (swapR_spec a c (p := q - (X.length : Int)) (q := q) (k := (X.length : Int)) (n := n) (D := D') (X := X) (M := []) (Y := Y) (E := E') (by omega) (by rw [List.length_nil]; omega) rfl heq (by simp; omega) hl)) ?_)))
 rintro _ _ ⟨_, ⟨rfl, rfl⟩, rfl⟩
 refine Lnil ?_
 rw [show D' ++ (Y ++ ([] ++ (X ++ E'))) = T by rw [List.nil_append]; exact hTs]
 refine Gs.fin_n ?_
 exact Gs.fin0 Tryz.results251 _ (⟨rfl, rfl⟩) (by repeat constructor)
theorem ordR_lt {a b : Rec} : decide (ordR a b < 0) = lessR a b := by
 unfold ordR
 cases h1 : lessR a b <;> cases h2 : lessR b a <;> simp
def rsE (a : Option Addr) (c : Nat) (P S Q : List Rec) : HProp := fun h => ∃ C, IsS S C ∧ rsA a c (P ++ (C ++ Q)) h
theorem rsE_mk {a : Option Addr} {c : Nat} {P S Q C l : List Rec} (h : IsS S C) (e : l = P ++ (C ++ Q)) : ∀ k, rsA a c l k → rsE a c P S Q k := fun k x => ⟨C, h, by rw [← e]; exact x⟩
theorem Gs.rsE {w0 : World} {n : Nat} {env : Env} {H : List HProp} {X : Act → World → Prop} {a : Option Addr} {c : Nat} {P S Q : List Rec} (g : ∀ C, IsS S C → Gs w0 n env (rsA a c (P ++ (C ++ Q)) :: H) X) : Gs w0 n env (rsE a c P S Q :: H) X :=
 Gs.ex (A := fun C => fun h => IsS S C ∧ rsA a c (P ++ (C ++ Q)) h) fun C => Gs.pure fun h => g C h
theorem Apart.pre {lt : Rec → Rec → Bool} {A B : List Rec} (h : Apart lt (A ++ B)) : Apart lt A := (List.pairwise_append.1 h).1
theorem insR_spec (a : Option Addr) (c : Nat) {P S Q : List Rec} {p q : Nat} (hp : p = P.length) (hq : q = P.length + S.length) (hS : Apart lessR S) {n : Nat} (hn : n = (P ++ (S ++ Q)).length) (hl : n ≤ 40000) :
   Ct Tryz.prog 205 [.slice a n c, int p, int q, cmpR] [rsA a c (P ++ (S ++ Q))] (fun v hs => v = .tuple #[] ∧ hs = [rsE a c P S Q]) := by
 have hln : n = P.length + (S.length + Q.length) := by rw [hn]; simp
 have hcmp : ∀ x y : Rec, Ct Tryz.prog 115 ([] ++ [recV x, recV y] ++ []) [] (fun v hs => v = int (ordR x y) ∧ hs = []) := fun x y => orderR_spec x y
 have h0 : IsS (S.take 1) (S.take 1) := ⟨List.Perm.refl _, by cases S with | nil => exact List.Pairwise.nil | cons x l => exact List.pairwise_singleton _ _⟩
 have hst : P ++ (S ++ Q) = P ++ (S.take 1 ++ (S.drop 1 ++ Q)) := by rw [← List.append_assoc (S.take 1), List.take_append_drop]
 rw [hst]
 refine Cti Tryz.func205 (by kernel_rfl) 53 Tryz.ntmps205 rfl rfl fun w0 R => ?_
 refine Gs.slAddr (xs := P ++ (S.take 1 ++ (S.drop 1 ++ Q))) (SlH.own (E := 32) (enc := recC) (by repeat constructor)) fun ab ao ha => ?_
 refine Gsr (Lmv rfl rfl (Lq rfl (pu_addI (z := ((p + 1 : Nat) : Int)) rfl rfl (by omega) (by omega) (by omega)) ?_))
 refine Las rfl rfl (Lnt (Gs.block (Gs.loop1 (fun s : Nat × List Rec => 1 ≤ s.1 ∧ s.1 ≤ S.length + 1 ∧ IsS (S.take s.1) s.2) (fun s => [(0, .slice a n c), (1, int p), (2, int q), (3, cmpR), (8, int ((p + s.1 : Nat) : Int))]) (fun s => [rsA a c (P ++ (s.2 ++ (S.drop s.1 ++ Q)))] ++ R) (fun s => S.length + 1 - s.1) (1, S.take 1) (⟨Nat.le_refl _, by show 1 ≤ S.length + 1; omega, h0⟩) (by repeat constructor) (by repeat constructor) (fun s hs => ?_))))
 obtain ⟨k, C⟩ := s
 obtain ⟨hk1, hk, hC⟩ := hs
 dsimp only at hk1 hk hC ⊢
 refine Gs.seq (Gsr (Lmv rfl rfl (Lmv rfl rfl (Lq rfl (pu_lt rfl rfl) (Lnt (Gs.cond rfl (fun hc0 => ?_) (fun hc0 => ?_)))))))
 ·
  have hlt : k < S.length := by have := of_decide_eq_true hc0; omega
  obtain ⟨x, hx⟩ := some_at hlt
  have hCl : C.length = k := by rw [hC.1.length_eq, List.length_take]; omega
  obtain rfl := ha (fun e => by have := congrArg List.length e; simp at this; omega)
  have hap : Apart lessR (C ++ [x]) := by
    refine (Apart.pre (B := S.drop (k + 1)) ?_).perm (hC.1.symm.append_right [x])
    rw [← take_snoc' hx, List.take_append_drop]; exact hS
  have hin : P ++ (C ++ (S.drop k ++ Q)) = inS P C x (S.drop (k + 1) ++ Q) k := by
    unfold inS; rw [drop_cons hx, List.take_of_length_le (Nat.le_of_eq hCl), List.drop_of_length_le (Nat.le_of_eq hCl)]; simp
  have hnx : ∀ t, List.Perm (C.take t ++ x :: C.drop t) (S.take (k + 1)) := fun t => by
    rw [take_snoc' hx]; exact (inS_perm P C x Q t).trans (hC.1.append_right [x])
  rw [hin]
  refine Gs.skip (Gn (Gs.seq (Gs.block (Gsr (Lmv rfl rfl (Las rfl rfl (Lnt (Gs.block (Gs.loop1 (fun t : Nat => t ≤ k ∧ ∀ m y, t ≤ m → C[m]? = some y → lessR x y = true) (fun t => [(0, .slice (some ⟨ab, ao, none⟩) n c), (1, int p), (2, int q), (3, cmpR), (8, int ((p + k : Nat) : Int)), (9, int ((p + t : Nat) : Int))]) (fun t => [rsA (some ⟨ab, ao, none⟩) c (inS P C x (S.drop (k + 1) ++ Q) t)] ++ R) (fun t => t) k (⟨Nat.le_refl _, fun m y hm hy => by have := (List.getElem?_eq_some_iff.1 hy).1; omega⟩) (by repeat constructor) (by repeat constructor) (fun t ⟨ht, hhi⟩ => ?_))))))))))
  refine Gs.seq (Gs.seq (Gs.regD mixed (by kernel_rfl) (Rmv 0 rfl (by kernel_rfl) rfl (Rmv 1 rfl (by kernel_rfl) rfl (Rq 2 rfl (by kernel_rfl) (pu_gt rfl rfl) (Rg.puB 3 rfl rfl (by kernel_rfl) trivial (pu_move rfl) (fun hg3 => ?_) (fun hg3 => ?_)))))))
  ·
   have hpos : 0 < t := by have := of_decide_eq_true hg3; omega
   obtain ⟨m, rfl⟩ : ∃ m, t = m + 1 := ⟨t - 1, by omega⟩
   obtain ⟨u, hu⟩ := some_at (l := C) (i := m) (by omega)
   have hA := inS_at (P := P) (x := x) (Q := S.drop (k + 1) ++ Q) hu
   have hB := inS_s (P := P) (x := x) (Q := S.drop (k + 1) ++ Q) hu
   have hPl : (P ++ C.take m).length = p + m := by rw [List.length_append, List.length_take]; omega
   have hil : (inS P C x (S.drop (k + 1) ++ Q) (m + 1)).length = n := by rw [inS_len, List.length_append, List.length_drop]; omega
   have gx : (inS P C x (S.drop (k + 1) ++ Q) (m + 1))[(((p + (m + 1) : Nat) : Int)).toNat]? = some x := getB hA (by rw [hPl, List.length_nil]; omega)
   have gu : (inS P C x (S.drop (k + 1) ++ Q) (m + 1))[(((p + (m + 1) : Nat) : Int) - 1).toNat]? = some u := getA hA (by rw [hPl]; omega)
   have hne2 : (((p + (m + 1) : Nat) : Int)).toNat ≠ (((p + (m + 1) : Nat) : Int) - 1).toNat := by omega
   have gu2 : ((inS P C x (S.drop (k + 1) ++ Q) (m + 1)).set (((p + (m + 1) : Nat) : Int)).toNat u)[(((p + (m + 1) : Nat) : Int) - 1).toNat]? = some u := by rw [List.getElem?_set_ne hne2]; exact gu
   have hset : ((inS P C x (S.drop (k + 1) ++ Q) (m + 1)).set (((p + (m + 1) : Nat) : Int)).toNat u).set (((p + (m + 1) : Nat) : Int) - 1).toNat x = inS P C x (S.drop (k + 1) ++ Q) m := by rw [hB]; exact swap_at' hA (by rw [hPl]; omega) (by rw [hPl, List.length_nil]; omega)
   refine Rg.pu 4 rfl rfl (by kernel_rfl) ⟨_, rfl, rfl⟩ (pu_move rfl) (Rg.pu 5 rfl rfl (by kernel_rfl) ⟨_, rfl, rfl⟩ (pu_move rfl) (Rg.pu 6 rfl rfl (by kernel_rfl) ⟨_, rfl, rfl⟩ (pu_move rfl) (Rg.pu 7 rfl rfl (by kernel_rfl) ⟨_, rfl, rfl⟩ (pu_ia se_41 rfl rfl (by omega) (by omega)) (Rg.rd 8 rfl rfl (by kernel_rfl) ⟨_, rfl, rfl⟩ (rd_lda ag_32 rfl (Rdc.el0 (SlH.own (xs := inS P C x (S.drop (k + 1) ++ Q) (m + 1)) (E := 32) (enc := recC) (sz := 5) (by repeat constructor)) gx rfl rfl) rfl) ?_))))
   refine Rg.pu 9 rfl rfl (by kernel_rfl) ⟨_, rfl, rfl⟩ (pu_move rfl) (Rg.pu 10 rfl rfl (by kernel_rfl) ⟨_, rfl, rfl⟩ (pu_move rfl) (Rg.pu 11 rfl rfl (by kernel_rfl) ⟨_, rfl, rfl⟩ (by first | exact pu_subI rfl rfl rfl (by omega) (by omega) | exact pu_sub rfl rfl) ?_))
   refine Rg.pu 12 rfl rfl (by kernel_rfl) ⟨_, rfl, rfl⟩ (pu_ia se_41 rfl rfl (by omega) (by omega)) (Rg.rd 13 rfl rfl (by kernel_rfl) ⟨_, rfl, rfl⟩ (rd_lda ag_32 rfl (Rdc.el0 (SlH.own (xs := inS P C x (S.drop (k + 1) ++ Q) (m + 1)) (E := 32) (enc := recC) (sz := 5) (by repeat constructor)) gu rfl rfl) rfl) ?_)
   refine Rg.one (by kernel_rfl) (Stp.ac 14 rfl rfl (by kernel_rfl) ⟨_, rfl, rfl⟩ (as_callV rfl (hcmp x u) (by repeat constructor) (by repeat constructor))  ?_)
   rintro _ _ ⟨_, ⟨rfl, rfl⟩, rfl⟩
   refine Rg.pu 15 rfl rfl (by kernel_rfl) ⟨_, rfl, rfl⟩ (pu_lt rfl rfl) (Rpk 16 rfl (by kernel_rfl) rfl rfl (Rg.end (by kernel_rfl) (Gn (Gs.cond rfl (fun hc1 => ?_) (fun hc1 => ?_)))))
   ·
    have hxu : lessR x u = true := by rw [← ordR_lt]; exact hc1
    have hhi2 : ∀ m' y, m ≤ m' → C[m']? = some y → lessR x y = true := fun m' y hm hy => by
      by_cases e : m' = m
      · subst e; rw [hu] at hy; cases hy; exact hxu
      · exact hhi m' y (by omega) hy
    refine Gs.skip (Gn (Gs.seq (Gs.block (Gs.regD mixed (by kernel_rfl) (Rmv 0 rfl (by kernel_rfl) rfl (Rmv 1 rfl (by kernel_rfl) rfl (Rmv 2 rfl (by kernel_rfl) rfl (Rmv 3 rfl (by kernel_rfl) rfl (Rq 4 rfl (by kernel_rfl) (by first | exact pu_subI rfl rfl rfl (by omega) (by omega) | exact pu_sub rfl rfl) ?_)))))))))
    refine Rmv 5 rfl (by kernel_rfl) rfl (Rmv 6 rfl (by kernel_rfl) rfl (Rq 7 rfl (by kernel_rfl) (by first | exact pu_subI rfl rfl rfl (by omega) (by omega) | exact pu_sub rfl rfl) ?_))
    refine Rq 8 rfl (by kernel_rfl) (pu_ia se_41 rfl rfl (by omega) (by omega)) (Rr 9 rfl (by kernel_rfl) (rd_lda ag_32 rfl (Rdc.el0 (SlH.own (xs := inS P C x (S.drop (k + 1) ++ Q) (m + 1)) (E := 32) (enc := recC) (sz := 5) (by repeat constructor)) gu rfl rfl) rfl) ?_)
    refine Rmv 10 rfl (by kernel_rfl) rfl (Rmv 11 rfl (by kernel_rfl) rfl (Rq 12 rfl (by kernel_rfl) (pu_ia se_41 rfl rfl (by omega) (by omega)) (Rr 13 rfl (by kernel_rfl) (rd_lda ag_32 rfl (Rdc.el0 (SlH.own (xs := inS P C x (S.drop (k + 1) ++ Q) (m + 1)) (E := 32) (enc := recC) (sz := 5) (by repeat constructor)) gx rfl rfl) rfl) ?_)))
    refine Rq 14 rfl (by kernel_rfl) (pu_ia se_41 rfl rfl (by omega) (by omega)) (Rg.one (by kernel_rfl) (Stp.ac0 15 rfl rfl (by kernel_rfl) trivial (ac_stE (enc := recC) (xs := inS P C x (S.drop (k + 1) ++ Q) (m + 1)) (i := (((p + (m + 1) : Nat) : Int)).toNat) (x0 := x) (y0 := u) (vs := recC u) (fo := 0) sz_32 ek_32 rfl rfl (by repeat constructor) rfl rfl rfl gx rfl rfl)  ?_))
    rintro _ _ rfl
    refine Rq 16 rfl (by kernel_rfl) (pu_ia se_41 rfl rfl (by omega) (by omega)) (Rg.one (by kernel_rfl) (Stp.ac0 17 rfl rfl (by kernel_rfl) trivial (ac_stE (enc := recC) (xs := (inS P C x (S.drop (k + 1) ++ Q) (m + 1)).set (((p + (m + 1) : Nat) : Int)).toNat u) (i := (((p + (m + 1) : Nat) : Int) - 1).toNat) (x0 := u) (y0 := x) (vs := recC x) (fo := 0) sz_32 ek_32 rfl rfl (by repeat constructor) rfl rfl rfl gu2 rfl rfl)  ?_))
    rintro _ _ rfl
    refine Rg.end (by kernel_rfl) ?_
    rw [hset]
    refine Gs.blk_n (Gn (Gs.reg (Lmv rfl rfl (Lq rfl (pu_subI (z := ((p + m : Nat) : Int)) rfl rfl (by omega) (by omega) (by omega)) ?_))))
    refine Las rfl rfl (Lnt ?_)
    exact Ag m ⟨by omega, hhi2⟩ (by omega)
   have hxu : lessR x u = false := by rw [← ordR_lt]; exact hc1
   have hlow : ∀ m' y, m' < m + 1 → C[m']? = some y → lessR x y = false := low_none ordL hC.2 (fun y _ hy => by rw [Nat.add_sub_cancel, hu] at hy; cases hy; exact hxu) (by omega)
   refine Gs.exit (Gx (Gx (Gs.blk_hit (Gs.blk_n (Gn (Gs.reg (Lmv rfl rfl (Lq rfl (pu_addI (z := ((p + (k + 1) : Nat) : Int)) rfl rfl (by omega) (by omega) (by omega)) ?_))))))))
   refine Las rfl rfl (Lnt ?_)
   first | exact Ag (k + 1, C.take t ++ x :: C.drop t) ⟨by show 1 ≤ k + 1; omega, by show k + 1 ≤ S.length + 1; omega, hnx t, by have h9 := one_right hap hC.2 hlow hhi; rwa [List.append_assoc, List.singleton_append] at h9⟩ (by show S.length + 1 - (k + 1) < S.length + 1 - k; omega) | exact Ag (k + 1, C.take (m + 1) ++ x :: C.drop (m + 1)) ⟨by show 1 ≤ k + 1; omega, by show k + 1 ≤ S.length + 1; omega, hnx (m + 1), by have h9 := one_right hap hC.2 hlow hhi; rwa [List.append_assoc, List.singleton_append] at h9⟩ (by show S.length + 1 - (k + 1) < S.length + 1 - k; omega)
  have hz : t = 0 := by have := of_decide_eq_false hg3; omega
  have hlow : ∀ m y, m < t → C[m]? = some y → lessR x y = false := fun m y hm _ => by omega
  refine Rof 4 rfl (by kernel_rfl) rfl (Rof 5 rfl (by kernel_rfl) rfl (Rof 6 rfl (by kernel_rfl) rfl (Rof 7 rfl (by kernel_rfl) rfl (Rof 8 rfl (by kernel_rfl) rfl (Rof 9 rfl (by kernel_rfl) rfl (Rof 10 rfl (by kernel_rfl) rfl (Rof 11 rfl (by kernel_rfl) rfl (Rof 12 rfl (by kernel_rfl) rfl (Rof 13 rfl (by kernel_rfl) rfl (Rof 14 rfl (by kernel_rfl) rfl (Rof 15 rfl (by kernel_rfl) rfl ?_)))))))))))
  refine Rpk 16 rfl (by kernel_rfl) rfl rfl (Rg.end (by kernel_rfl) (Gn (Gs.cond_f rfl (Gs.exit (Gx (Gx (Gs.blk_hit (Gs.blk_n (Gn (Gs.reg (Lmv rfl rfl ?_)))))))))))
  refine Lq rfl (pu_addI (z := ((p + (k + 1) : Nat) : Int)) rfl rfl (by omega) (by omega) (by omega)) ?_
  refine Las rfl rfl (Lnt ?_)
  first | exact Ag (k + 1, C.take t ++ x :: C.drop t) ⟨by show 1 ≤ k + 1; omega, by show k + 1 ≤ S.length + 1; omega, hnx t, by have h9 := one_right hap hC.2 hlow hhi; rwa [List.append_assoc, List.singleton_append] at h9⟩ (by show S.length + 1 - (k + 1) < S.length + 1 - k; omega) | exact Ag (k + 1, C.take (m + 1) ++ x :: C.drop (m + 1)) ⟨by show 1 ≤ k + 1; omega, by show k + 1 ≤ S.length + 1; omega, hnx (m + 1), by have h9 := one_right hap hC.2 hlow hhi; rwa [List.append_assoc, List.singleton_append] at h9⟩ (by show S.length + 1 - (k + 1) < S.length + 1 - k; omega)
 have hge : S.length ≤ k := by have := of_decide_eq_false hc0; omega
 rw [List.take_of_length_le hge] at hC
 refine Gs.ent (rsE_mk hC (by rw [List.drop_of_length_le hge, List.nil_append])) ?_
 refine Gs.exit (Gx (Gx (Gs.blk_hit (Gs.fin_n ?_))))
 exact Gs.fin0 Tryz.results205 _ (⟨rfl, rfl⟩) (by repeat constructor)
end Go.Proofs.YtklgiidfompdpaaGreatDoor
namespace Go.Proofs.YtklgiidfompdpaaGreatDoor
open Go Go.Sl Go.Gv Go.Kv Go.Po Go.Ix Go.Stb
set_option maxRecDepth 100000
theorem mid_perm_l {x : Rec} {B : List Rec} (t : Nat) : List.Perm (B.take t ++ x :: B.drop t) ([x] ++ B) := (inS_perm [] B x [] t).trans List.perm_append_comm
theorem mid_perm_r {y : Rec} {A : List Rec} (t : Nat) : List.Perm (A.take t ++ y :: A.drop t) (A ++ [y]) := inS_perm [] A y [] t
set_option maxHeartbeats 1000000 in
theorem symR_spec (a : Option Addr) (c : Nat) : ∀ (N : Nat) {P A B Q : List Rec} {p m q : Nat} (hp : p = P.length) (hm : m = P.length + A.length) (hq : q = P.length + A.length + B.length) (hN : A.length + B.length ≤ N)
   (hA : Asc lessR A) (hB : Asc lessR B) (hap : Apart lessR (A ++ B)) (hAne : 0 < A.length) (hBne : 0 < B.length) {n : Nat} (hn : n = (P ++ (A ++ (B ++ Q))).length) (hl : n ≤ 40000),
   Ct Tryz.prog 206 [.slice a n c, int p, int m, int q, cmpR] [rsA a c (P ++ (A ++ (B ++ Q)))] (fun v hs => v = .tuple #[] ∧ hs = [rsE a c P (A ++ B) Q])
 | 0, P, A, B, Q, p, m, q, hp, hm, hq, hN, hA, hB, hap, hAne, hBne, n, hn, hl => by omega
 | N + 1, P, A, B, Q, p, m, q, hp, hm, hq, hN, hA, hB, hap, hAne, hBne, n, hn, hl => by
   have ih := @symR_spec a c N
   have hln : n = P.length + (A.length + (B.length + Q.length)) := by rw [hn]; simp
   have hcmp : ∀ x y : Rec, Ct Tryz.prog 115 ([] ++ [recV x, recV y] ++ []) [] (fun v hs => v = int (ordR x y) ∧ hs = []) := fun x y => orderR_spec x y
   refine Cti Tryz.func206 (by kernel_rfl) 220 Tryz.ntmps206 rfl rfl fun w0 R => ?_
   refine Gs.slAddr (xs := P ++ (A ++ (B ++ Q))) (SlH.own (E := 32) (enc := recC) (by repeat constructor)) fun ab ao ha => ?_
   obtain rfl := ha (fun e => by have h9 := hn; rw [e] at h9; simp at h9; omega)
   refine Gs.seq (Gsr (Lmv rfl rfl (Lmv rfl rfl (Lq rfl (by first | exact pu_subI rfl rfl rfl (by omega) (by omega) | exact pu_sub rfl rfl) ?_))))
   refine Lq rfl (pu_eq rfl rfl) (Lnt (Gs.cond rfl (fun hc0 => ?_) (fun hc0 => ?_)))
   ·
    have hA1 : A.length = 1 := by have := of_decide_eq_true hc0; omega
    obtain ⟨x, rfl⟩ := List.length_eq_one_iff.1 hA1
    have hin : P ++ ([x] ++ (B ++ Q)) = inS P B x Q 0 := by unfold inS; simp
    have gx : (inS P B x Q 0)[(((p : Nat) : Int)).toNat]? = some x := by have h9 := inS_x (P := P) (C := B) (x := x) (Q := Q) (t := 0) (Nat.zero_le _); rw [show (((p : Nat) : Int)).toNat = P.length + 0 by omega]; exact h9
    have hPm : m = p + 1 := by rw [hm, hp]; rfl
    rw [hin]
    refine Gsr (Lmv rfl rfl (Las rfl rfl (Lnt (Gsr (Lmv rfl rfl (Las rfl rfl (Lnil ?_)))))))
    rw [show ((q : Nat) : Int) = ((m + B.length : Nat) : Int) by omega]
    refine Gn (Gs.seq (Gs.block (Gs.loop1 (fun s : Nat × Nat => s.1 ≤ s.2 ∧ s.2 ≤ B.length ∧ (∀ y, 0 < s.1 → B[s.1 - 1]? = some y → lessR y x = true) ∧ (∀ y, B[s.2]? = some y → lessR y x = false)) (fun s => [(0, .slice (some ⟨ab, ao, none⟩) n c), (1, int p), (4, cmpR), (10, int ((m + s.1 : Nat) : Int)), (11, int ((m + s.2 : Nat) : Int))]) (fun s => [rsA (some ⟨ab, ao, none⟩) c (inS P B x Q 0)] ++ R) (fun s => s.2 - s.1) (0, B.length) (⟨Nat.zero_le _, Nat.le_refl _, fun y h => by omega, fun y hy => by simp at hy⟩) (by repeat constructor) (by repeat constructor) (fun s hs => ?_))))
    obtain ⟨i, j⟩ := s
    obtain ⟨hij, hj, hlo, hhi⟩ := hs
    dsimp only at hij hj hlo hhi ⊢
    refine Gs.seq (Gsr (Lmv rfl rfl (Lmv rfl rfl (Lq rfl (pu_lt rfl rfl) (Lnt (Gs.cond rfl (fun hc1 => ?_) (fun hc1 => ?_)))))))
    ·
     have hlt : i < j := by have := of_decide_eq_true hc1; omega
     have hhm : (m + i + (m + j)) / 2 = m + (i + j) / 2 := by omega
     obtain ⟨y, hy⟩ := some_at (l := B) (i := (i + j) / 2) (by omega)
     have gy : (inS P B x Q 0)[((m + (i + j) / 2 : Nat) : Int).toNat]? = some y := by
       obtain ⟨B1, B2, rfl, hb⟩ : ∃ B1 B2, B = B1 ++ y :: B2 ∧ B1.length = (i + j) / 2 := ⟨B.take ((i + j) / 2), B.drop ((i + j) / 2 + 1), by rw [← drop_cons hy, List.take_append_drop], by rw [List.length_take]; omega⟩
       refine getA (A := P ++ (x :: B1)) (B := B2 ++ Q) (by unfold inS; simp) ?_
       simp; omega
     refine Gs.skip (Gn (Gs.block (Gsr (Lmv rfl rfl (Lmv rfl rfl (Lq rfl (by first | exact pu_addI rfl rfl rfl (by omega) (by omega) | exact pu_add rfl rfl) ?_))))))
     refine Lq rfl (pu_conv Tryz.underlying3 Tryz.underlying185 rfl) (Lq rfl (pu_shr rfl rfl (by omega)) (Lq rfl (pu_conv Tryz.underlying185 Tryz.underlying3 rfl) ?_))
     rw [half (by omega), hhm]
     refine Las rfl rfl (Lnt (Gs.seq (Gs.regD mixed (by kernel_rfl) (Rmv 0 rfl (by kernel_rfl) rfl (Rmv 1 rfl (by kernel_rfl) rfl (Rmv 2 rfl (by kernel_rfl) rfl (Rq 3 rfl (by kernel_rfl) (pu_ia se_41 rfl rfl (by omega) (by omega)) (Rr 4 rfl (by kernel_rfl) (rd_lda ag_32 rfl (Rdc.el0 (SlH.own (xs := inS P B x Q 0) (E := 32) (enc := recC) (sz := 5) (by repeat constructor)) gy rfl rfl) rfl) ?_))))))))
     refine Rmv 5 rfl (by kernel_rfl) rfl (Rmv 6 rfl (by kernel_rfl) rfl (Rq 7 rfl (by kernel_rfl) (pu_ia se_41 rfl rfl (by omega) (by omega)) (Rr 8 rfl (by kernel_rfl) (rd_lda ag_32 rfl (Rdc.el0 (SlH.own (xs := inS P B x Q 0) (E := 32) (enc := recC) (sz := 5) (by repeat constructor)) gx rfl rfl) rfl) ?_)))
     refine Rg.one (by kernel_rfl) (Stp.ac 9 rfl rfl (by kernel_rfl) trivial (as_callV rfl (hcmp y x) (by repeat constructor) (by repeat constructor))  ?_)
     rintro _ _ ⟨_, ⟨rfl, rfl⟩, rfl⟩
     refine Rq 10 rfl (by kernel_rfl) (pu_lt rfl rfl) (Rg.end (by kernel_rfl) (Gn (Gs.cond rfl (fun hc2 => ?_) (fun hc2 => ?_))))
     ·
      have hyx : lessR y x = true := by rw [← ordR_lt]; exact hc2
      refine Gs.reg (Lmv rfl rfl (Lq rfl (pu_addI (z := ((m + ((i + j) / 2 + 1) : Nat) : Int)) rfl rfl (by omega) (by omega) (by omega)) ?_))
      refine Las rfl rfl (Lnil (Gs.blk_n (Gn ?_)))
      first | exact Ag ((i + j) / 2 + 1, j) ⟨by show (i + j) / 2 + 1 ≤ j; omega, hj, fun z _ hz => by rw [show (i + j) / 2 + 1 - 1 = (i + j) / 2 by omega, hy] at hz; cases hz; exact hyx, hhi⟩ (by show j - ((i + j) / 2 + 1) < j - i; omega) | exact Ag (i, (i + j) / 2) ⟨by show i ≤ (i + j) / 2; omega, by show (i + j) / 2 ≤ B.length; omega, hlo, fun z hz => by rw [hy] at hz; cases hz; exact hyx⟩ (by show (i + j) / 2 - i < j - i; omega)
     have hyx : lessR y x = false := by rw [← ordR_lt]; exact hc2
     refine Gs.reg (Lmv rfl rfl (Las rfl rfl (Lnil (Gs.blk_n (Gn ?_)))))
     first | exact Ag ((i + j) / 2 + 1, j) ⟨by show (i + j) / 2 + 1 ≤ j; omega, hj, fun z _ hz => by rw [show (i + j) / 2 + 1 - 1 = (i + j) / 2 by omega, hy] at hz; cases hz; exact hyx, hhi⟩ (by show j - ((i + j) / 2 + 1) < j - i; omega) | exact Ag (i, (i + j) / 2) ⟨by show i ≤ (i + j) / 2; omega, by show (i + j) / 2 ≤ B.length; omega, hlo, fun z hz => by rw [hy] at hz; cases hz; exact hyx⟩ (by show (i + j) / 2 - i < j - i; omega)
    have hge : i = j := by have := of_decide_eq_false hc1; omega
    subst hge
    refine Gs.exit (Gx (Gx (Gs.blk_hit (Gn (Gs.seq (Gsr (Lmv rfl rfl (Las rfl rfl (Lnt (Gs.block (Gs.loop1 (fun t : Nat => t ≤ i) (fun t => [(0, .slice (some ⟨ab, ao, none⟩) n c), (10, int ((m + i : Nat) : Int)), (13, int ((p + t : Nat) : Int))]) (fun t => [rsA (some ⟨ab, ao, none⟩) c (inS P B x Q t)] ++ R) (fun t => i - t) 0 (Nat.zero_le _) (by repeat constructor) (by repeat constructor) (fun t ht => ?_))))))))))))
    refine Gs.seq (Gsr (Lmv rfl rfl (Lmv rfl rfl (Lq rfl (by first | exact pu_subI rfl rfl rfl (by omega) (by omega) | exact pu_sub rfl rfl) ?_))))
    refine Lq rfl (pu_lt rfl rfl) (Lnt (Gs.cond rfl (fun hc3 => ?_) (fun hc3 => ?_)))
    ·
     have hlt3 : t < i := by have := of_decide_eq_true hc3; omega
     obtain ⟨u, hu⟩ := some_at (l := B) (i := t) (by omega)
     have h1 := inS_s (P := P) (x := x) (Q := Q) hu
     have h2 := inS_at (P := P) (x := x) (Q := Q) hu
     have hPl : (P ++ B.take t).length = p + t := by rw [List.length_append, List.length_take]; omega
     have gx3 : (inS P B x Q t)[(((p + t : Nat) : Int)).toNat]? = some x := getA h1 (by rw [hPl]; omega)
     have gu : (inS P B x Q t)[(((p + t : Nat) : Int) + 1).toNat]? = some u := getB h1 (by rw [hPl, List.length_nil]; omega)
     have hne2 : (((p + t : Nat) : Int)).toNat ≠ (((p + t : Nat) : Int) + 1).toNat := by omega
     have gu2 : ((inS P B x Q t).set (((p + t : Nat) : Int)).toNat u)[(((p + t : Nat) : Int) + 1).toNat]? = some u := by rw [List.getElem?_set_ne hne2]; exact gu
     have hset : ((inS P B x Q t).set (((p + t : Nat) : Int)).toNat u).set (((p + t : Nat) : Int) + 1).toNat x = inS P B x Q (t + 1) := by rw [h2]; exact swap_at h1 (by rw [hPl]; omega) (by rw [hPl, List.length_nil]; omega)
     refine Gs.skip (Gn (Gs.seq (Gs.block (Gs.regD mixed (by kernel_rfl) (Rmv 0 rfl (by kernel_rfl) rfl (Rmv 1 rfl (by kernel_rfl) rfl (Rmv 2 rfl (by kernel_rfl) rfl (Rmv 3 rfl (by kernel_rfl) rfl (Rq 4 rfl (by kernel_rfl) (by first | exact pu_addI rfl rfl rfl (by omega) (by omega) | exact pu_add rfl rfl) ?_)))))))))
     refine Rmv 5 rfl (by kernel_rfl) rfl (Rmv 6 rfl (by kernel_rfl) rfl (Rq 7 rfl (by kernel_rfl) (by first | exact pu_addI rfl rfl rfl (by omega) (by omega) | exact pu_add rfl rfl) ?_))
     refine Rq 8 rfl (by kernel_rfl) (pu_ia se_41 rfl rfl (by omega) (by omega)) (Rr 9 rfl (by kernel_rfl) (rd_lda ag_32 rfl (Rdc.el0 (SlH.own (xs := inS P B x Q t) (E := 32) (enc := recC) (sz := 5) (by repeat constructor)) gu rfl rfl) rfl) ?_)
     refine Rmv 10 rfl (by kernel_rfl) rfl (Rmv 11 rfl (by kernel_rfl) rfl (Rq 12 rfl (by kernel_rfl) (pu_ia se_41 rfl rfl (by omega) (by omega)) (Rr 13 rfl (by kernel_rfl) (rd_lda ag_32 rfl (Rdc.el0 (SlH.own (xs := inS P B x Q t) (E := 32) (enc := recC) (sz := 5) (by repeat constructor)) gx3 rfl rfl) rfl) ?_)))
     refine Rq 14 rfl (by kernel_rfl) (pu_ia se_41 rfl rfl (by omega) (by omega)) (Rg.one (by kernel_rfl) (Stp.ac0 15 rfl rfl (by kernel_rfl) trivial (ac_stE (enc := recC) (xs := inS P B x Q t) (i := (((p + t : Nat) : Int)).toNat) (x0 := x) (y0 := u) (vs := recC u) (fo := 0) sz_32 ek_32 rfl rfl (by repeat constructor) rfl rfl rfl gx3 rfl rfl)  ?_))
     rintro _ _ rfl
     refine Rq 16 rfl (by kernel_rfl) (pu_ia se_41 rfl rfl (by omega) (by omega)) (Rg.one (by kernel_rfl) (Stp.ac0 17 rfl rfl (by kernel_rfl) trivial (ac_stE (enc := recC) (xs := (inS P B x Q t).set (((p + t : Nat) : Int)).toNat u) (i := (((p + t : Nat) : Int) + 1).toNat) (x0 := u) (y0 := x) (vs := recC x) (fo := 0) sz_32 ek_32 rfl rfl (by repeat constructor) rfl rfl rfl gu2 rfl rfl)  ?_))
     rintro _ _ rfl
     refine Rg.end (by kernel_rfl) ?_
     rw [hset]
     refine Gs.blk_n (Gn (Gs.reg (Lmv rfl rfl (Lq rfl (pu_addI (z := ((p + (t + 1) : Nat) : Int)) rfl rfl (by omega) (by omega) (by omega)) ?_))))
     refine Las rfl rfl (Lnt ?_)
     exact Ag (t + 1) hlt3 (by omega)
    have hge3 : t = i := by have := of_decide_eq_false hc3; omega
    subst hge3
    have hC : IsS ([x] ++ B) (B.take t ++ x :: B.drop t) := ⟨mid_perm_l t, by have h9 := one_left hap hB (low_all ordL hB hlo (by omega)) (high_none ordL hB hhi); rwa [List.append_assoc, List.singleton_append] at h9⟩
    refine Gs.ent (rsE_mk hC rfl) (Gs.exit (Gx (Gx (Gs.blk_hit (Gn (Gs.ret (Gr ?_)))))))
    exact Gs.fin0 Tryz.results206 _ (⟨rfl, rfl⟩) (by repeat constructor)
   refine Gs.skip (Gn (Gs.seq (Gsr (Lmv rfl rfl (Lmv rfl rfl (Lq rfl (by first | exact pu_subI rfl rfl rfl (by omega) (by omega) | exact pu_sub rfl rfl) ?_))))))
   refine Lq rfl (pu_eq rfl rfl) (Lnt (Gs.cond rfl (fun hc4 => ?_) (fun hc4 => ?_)))
   ·
    have hB1 : B.length = 1 := by have := of_decide_eq_true hc4; omega
    obtain ⟨x, rfl⟩ := List.length_eq_one_iff.1 hB1
    have hin : P ++ (A ++ ([x] ++ Q)) = inS P A x Q A.length := by unfold inS; simp
    have gx : (inS P A x Q A.length)[(((m : Nat) : Int)).toNat]? = some x := by have h9 := inS_x (P := P) (C := A) (x := x) (Q := Q) (t := A.length) (Nat.le_refl _); rw [show (((m : Nat) : Int)).toNat = P.length + A.length by omega]; exact h9
    rw [hin]
    refine Gsr (Lmv rfl rfl (Las rfl rfl (Lnt (Gsr (Lmv rfl rfl (Las rfl rfl (Lnil ?_)))))))
    rw [show ((m : Nat) : Int) = ((p + A.length : Nat) : Int) by omega]
    refine Gn (Gs.seq (Gs.block (Gs.loop1 (fun s : Nat × Nat => s.1 ≤ s.2 ∧ s.2 ≤ A.length ∧ (∀ y, 0 < s.1 → A[s.1 - 1]? = some y → lessR x y = false) ∧ (∀ y, A[s.2]? = some y → lessR x y = true)) (fun s => [(0, .slice (some ⟨ab, ao, none⟩) n c), (1, int p), (2, int ((p + A.length : Nat) : Int)), (4, cmpR), (14, int ((p + s.1 : Nat) : Int)), (15, int ((p + s.2 : Nat) : Int))]) (fun s => [rsA (some ⟨ab, ao, none⟩) c (inS P A x Q A.length)] ++ R) (fun s => s.2 - s.1) (0, A.length) (⟨Nat.zero_le _, Nat.le_refl _, fun y h => by omega, fun y hy => by simp at hy⟩) (by repeat constructor) (by repeat constructor) (fun s hs => ?_))))
    obtain ⟨i, j⟩ := s
    obtain ⟨hij, hj, hlo, hhi⟩ := hs
    dsimp only at hij hj hlo hhi ⊢
    refine Gs.seq (Gsr (Lmv rfl rfl (Lmv rfl rfl (Lq rfl (pu_lt rfl rfl) (Lnt (Gs.cond rfl (fun hc5 => ?_) (fun hc5 => ?_)))))))
    ·
     have hlt : i < j := by have := of_decide_eq_true hc5; omega
     have hhm : (p + i + (p + j)) / 2 = p + (i + j) / 2 := by omega
     obtain ⟨y, hy⟩ := some_at (l := A) (i := (i + j) / 2) (by omega)
     have gy : (inS P A x Q A.length)[((p + (i + j) / 2 : Nat) : Int).toNat]? = some y := by
       obtain ⟨B1, B2, hAe, hb⟩ : ∃ B1 B2, A = B1 ++ y :: B2 ∧ B1.length = (i + j) / 2 := ⟨A.take ((i + j) / 2), A.drop ((i + j) / 2 + 1), by rw [← drop_cons hy, List.take_append_drop], by rw [List.length_take]; omega⟩
       refine getA (A := P ++ B1) (B := B2 ++ (x :: Q)) (by unfold inS; rw [List.take_of_length_le (Nat.le_refl _), List.drop_of_length_le (Nat.le_refl _), hAe]; simp) ?_
       simp; omega
     have gx2 : (inS P A x Q A.length)[(((p + A.length : Nat) : Int)).toNat]? = some x := by have h9 := inS_x (P := P) (C := A) (x := x) (Q := Q) (t := A.length) (Nat.le_refl _); rw [show (((p + A.length : Nat) : Int)).toNat = P.length + A.length by omega]; exact h9
     refine Gs.skip (Gn (Gs.block (Gsr (Lmv rfl rfl (Lmv rfl rfl (Lq rfl (by first | exact pu_addI rfl rfl rfl (by omega) (by omega) | exact pu_add rfl rfl) ?_))))))
     refine Lq rfl (pu_conv Tryz.underlying3 Tryz.underlying185 rfl) (Lq rfl (pu_shr rfl rfl (by omega)) (Lq rfl (pu_conv Tryz.underlying185 Tryz.underlying3 rfl) ?_))
     rw [half (by omega), hhm]
     refine Las rfl rfl (Lnt (Gs.seq (Gs.regD mixed (by kernel_rfl) (Rmv 0 rfl (by kernel_rfl) rfl (Rmv 1 rfl (by kernel_rfl) rfl (Rmv 2 rfl (by kernel_rfl) rfl (Rq 3 rfl (by kernel_rfl) (pu_ia se_41 rfl rfl (by omega) (by omega)) (Rr 4 rfl (by kernel_rfl) (rd_lda ag_32 rfl (Rdc.el0 (SlH.own (xs := inS P A x Q A.length) (E := 32) (enc := recC) (sz := 5) (by repeat constructor)) gx2 rfl rfl) rfl) ?_))))))))
     refine Rmv 5 rfl (by kernel_rfl) rfl (Rmv 6 rfl (by kernel_rfl) rfl (Rq 7 rfl (by kernel_rfl) (pu_ia se_41 rfl rfl (by omega) (by omega)) (Rr 8 rfl (by kernel_rfl) (rd_lda ag_32 rfl (Rdc.el0 (SlH.own (xs := inS P A x Q A.length) (E := 32) (enc := recC) (sz := 5) (by repeat constructor)) gy rfl rfl) rfl) ?_)))
     refine Rg.one (by kernel_rfl) (Stp.ac 9 rfl rfl (by kernel_rfl) trivial (as_callV rfl (hcmp x y) (by repeat constructor) (by repeat constructor))  ?_)
     rintro _ _ ⟨_, ⟨rfl, rfl⟩, rfl⟩
     refine Rq 10 rfl (by kernel_rfl) (pu_lt rfl rfl) (Rq 11 rfl (by kernel_rfl) (pu_not rfl) (Rg.end (by kernel_rfl) (Gn (Gs.cond rfl (fun hc6 => ?_) (fun hc6 => ?_)))))
     ·
      have hxy : lessR x y = false := by rw [← ordR_lt]; simpa using hc6
      refine Gs.reg (Lmv rfl rfl (Lq rfl (pu_addI (z := ((p + ((i + j) / 2 + 1) : Nat) : Int)) rfl rfl (by omega) (by omega) (by omega)) ?_))
      refine Las rfl rfl (Lnil (Gs.blk_n (Gn ?_)))
      first | exact Ag ((i + j) / 2 + 1, j) ⟨by show (i + j) / 2 + 1 ≤ j; omega, hj, fun z _ hz => by rw [show (i + j) / 2 + 1 - 1 = (i + j) / 2 by omega, hy] at hz; cases hz; exact hxy, hhi⟩ (by show j - ((i + j) / 2 + 1) < j - i; omega) | exact Ag (i, (i + j) / 2) ⟨by show i ≤ (i + j) / 2; omega, by show (i + j) / 2 ≤ A.length; omega, hlo, fun z hz => by rw [hy] at hz; cases hz; exact hxy⟩ (by show (i + j) / 2 - i < j - i; omega)
     have hxy : lessR x y = true := by rw [← ordR_lt]; simpa using hc6
     refine Gs.reg (Lmv rfl rfl (Las rfl rfl (Lnil (Gs.blk_n (Gn ?_)))))
     first | exact Ag ((i + j) / 2 + 1, j) ⟨by show (i + j) / 2 + 1 ≤ j; omega, hj, fun z _ hz => by rw [show (i + j) / 2 + 1 - 1 = (i + j) / 2 by omega, hy] at hz; cases hz; exact hxy, hhi⟩ (by show j - ((i + j) / 2 + 1) < j - i; omega) | exact Ag (i, (i + j) / 2) ⟨by show i ≤ (i + j) / 2; omega, by show (i + j) / 2 ≤ A.length; omega, hlo, fun z hz => by rw [hy] at hz; cases hz; exact hxy⟩ (by show (i + j) / 2 - i < j - i; omega)
    have hge : i = j := by have := of_decide_eq_false hc5; omega
    subst hge
    refine Gs.exit (Gx (Gx (Gs.blk_hit (Gn (Gs.seq (Gsr (Lmv rfl rfl (Las rfl rfl (Lnt (Gs.block (Gs.loop1 (fun t : Nat => i ≤ t ∧ t ≤ A.length) (fun t => [(0, .slice (some ⟨ab, ao, none⟩) n c), (14, int ((p + i : Nat) : Int)), (17, int ((p + t : Nat) : Int))]) (fun t => [rsA (some ⟨ab, ao, none⟩) c (inS P A x Q t)] ++ R) (fun t => t - i) A.length (⟨hj, Nat.le_refl _⟩) (by repeat constructor) (by repeat constructor) (fun t ⟨hti, ht⟩ => ?_))))))))))))
    refine Gs.seq (Gsr (Lmv rfl rfl (Lmv rfl rfl (Lq rfl (pu_gt rfl rfl) (Lnt (Gs.cond rfl (fun hc7 => ?_) (fun hc7 => ?_)))))))
    ·
     have hpos : 0 < t := by have := of_decide_eq_true hc7; omega
     obtain ⟨k, rfl⟩ : ∃ k, t = k + 1 := ⟨t - 1, by omega⟩
     have hki : i ≤ k := by have := of_decide_eq_true hc7; omega
     obtain ⟨u, hu⟩ := some_at (l := A) (i := k) (by omega)
     have h2 := inS_at (P := P) (x := x) (Q := Q) hu
     have h1 := inS_s (P := P) (x := x) (Q := Q) hu
     have hPl : (P ++ A.take k).length = p + k := by rw [List.length_append, List.length_take]; omega
     have gx3 : (inS P A x Q (k + 1))[(((p + (k + 1) : Nat) : Int)).toNat]? = some x := getB h2 (by rw [hPl, List.length_nil]; omega)
     have gu : (inS P A x Q (k + 1))[(((p + (k + 1) : Nat) : Int) - 1).toNat]? = some u := getA h2 (by rw [hPl]; omega)
     have hne2 : (((p + (k + 1) : Nat) : Int)).toNat ≠ (((p + (k + 1) : Nat) : Int) - 1).toNat := by omega
     have gu2 : ((inS P A x Q (k + 1)).set (((p + (k + 1) : Nat) : Int)).toNat u)[(((p + (k + 1) : Nat) : Int) - 1).toNat]? = some u := by rw [List.getElem?_set_ne hne2]; exact gu
     have hset : ((inS P A x Q (k + 1)).set (((p + (k + 1) : Nat) : Int)).toNat u).set (((p + (k + 1) : Nat) : Int) - 1).toNat x = inS P A x Q k := by rw [h1]; exact swap_at' h2 (by rw [hPl]; omega) (by rw [hPl, List.length_nil]; omega)
     refine Gs.skip (Gn (Gs.seq (Gs.block (Gs.regD mixed (by kernel_rfl) (Rmv 0 rfl (by kernel_rfl) rfl (Rmv 1 rfl (by kernel_rfl) rfl (Rmv 2 rfl (by kernel_rfl) rfl (Rmv 3 rfl (by kernel_rfl) rfl (Rq 4 rfl (by kernel_rfl) (by first | exact pu_subI rfl rfl rfl (by omega) (by omega) | exact pu_sub rfl rfl) ?_)))))))))
     refine Rmv 5 rfl (by kernel_rfl) rfl (Rmv 6 rfl (by kernel_rfl) rfl (Rq 7 rfl (by kernel_rfl) (by first | exact pu_subI rfl rfl rfl (by omega) (by omega) | exact pu_sub rfl rfl) ?_))
     refine Rq 8 rfl (by kernel_rfl) (pu_ia se_41 rfl rfl (by omega) (by omega)) (Rr 9 rfl (by kernel_rfl) (rd_lda ag_32 rfl (Rdc.el0 (SlH.own (xs := inS P A x Q (k + 1)) (E := 32) (enc := recC) (sz := 5) (by repeat constructor)) gu rfl rfl) rfl) ?_)
     refine Rmv 10 rfl (by kernel_rfl) rfl (Rmv 11 rfl (by kernel_rfl) rfl (Rq 12 rfl (by kernel_rfl) (pu_ia se_41 rfl rfl (by omega) (by omega)) (Rr 13 rfl (by kernel_rfl) (rd_lda ag_32 rfl (Rdc.el0 (SlH.own (xs := inS P A x Q (k + 1)) (E := 32) (enc := recC) (sz := 5) (by repeat constructor)) gx3 rfl rfl) rfl) ?_)))
     refine Rq 14 rfl (by kernel_rfl) (pu_ia se_41 rfl rfl (by omega) (by omega)) (Rg.one (by kernel_rfl) (Stp.ac0 15 rfl rfl (by kernel_rfl) trivial (ac_stE (enc := recC) (xs := inS P A x Q (k + 1)) (i := (((p + (k + 1) : Nat) : Int)).toNat) (x0 := x) (y0 := u) (vs := recC u) (fo := 0) sz_32 ek_32 rfl rfl (by repeat constructor) rfl rfl rfl gx3 rfl rfl)  ?_))
     rintro _ _ rfl
     refine Rq 16 rfl (by kernel_rfl) (pu_ia se_41 rfl rfl (by omega) (by omega)) (Rg.one (by kernel_rfl) (Stp.ac0 17 rfl rfl (by kernel_rfl) trivial (ac_stE (enc := recC) (xs := (inS P A x Q (k + 1)).set (((p + (k + 1) : Nat) : Int)).toNat u) (i := (((p + (k + 1) : Nat) : Int) - 1).toNat) (x0 := u) (y0 := x) (vs := recC x) (fo := 0) sz_32 ek_32 rfl rfl (by repeat constructor) rfl rfl rfl gu2 rfl rfl)  ?_))
     rintro _ _ rfl
     refine Rg.end (by kernel_rfl) ?_
     rw [hset]
     refine Gs.blk_n (Gn (Gs.reg (Lmv rfl rfl (Lq rfl (pu_subI (z := ((p + k : Nat) : Int)) rfl rfl (by omega) (by omega) (by omega)) ?_))))
     refine Las rfl rfl (Lnt ?_)
     exact Ag k ⟨hki, by omega⟩ (by omega)
    have hge7 : t = i := by have := of_decide_eq_false hc7; omega
    subst hge7
    have hC : IsS (A ++ [x]) (A.take t ++ x :: A.drop t) := ⟨mid_perm_r t, by have h9 := one_right hap hA (low_none ordL hA hlo (by omega)) (high_all ordL hA hhi); rwa [List.append_assoc, List.singleton_append] at h9⟩
    refine Gs.ent (rsE_mk hC rfl) (Gs.exit (Gx (Gx (Gs.blk_hit (Gn (Gs.ret (Gr ?_)))))))
    exact Gs.fin0 Tryz.results206 _ (⟨rfl, rfl⟩) (by repeat constructor)
   have hA2 : A.length ≠ 1 := by have := of_decide_eq_false hc0; omega
   have hB2 : B.length ≠ 1 := by have := of_decide_eq_false hc4; omega
   obtain ⟨mid, hmid⟩ : ∃ z, z = (p + q) / 2 := ⟨_, rfl⟩
   obtain ⟨lo, hlod⟩ : ∃ z : Nat, z = if mid < m then mid + m - q else p := ⟨_, rfl⟩
   obtain ⟨hi, hhid⟩ : ∃ z : Nat, z = if mid < m then mid else m := ⟨_, rfl⟩
   have hlo1 : p ≤ lo ∧ lo ≤ hi ∧ hi ≤ m ∧ hi ≤ mid ∧ mid + m ≤ q + lo := by rw [hlod, hhid]; split <;> omega
   refine Gs.skip (Gn (Gsr (Lmv rfl rfl (Lmv rfl rfl (Lq rfl (by first | exact pu_addI rfl rfl rfl (by omega) (by omega) | exact pu_add rfl rfl) ?_)))))
   refine Lq rfl (pu_conv Tryz.underlying3 Tryz.underlying185 rfl) (Lq rfl (pu_shr rfl rfl (by omega)) (Lq rfl (pu_conv Tryz.underlying185 Tryz.underlying3 rfl) ?_))
   rw [half (by omega), ← hmid]
   refine Las rfl rfl (Lnt (Gsr (Lmv rfl rfl (Lmv rfl rfl (Lq rfl (pu_addI (z := ((mid + m : Nat) : Int)) rfl rfl (by omega) (by omega) (by omega)) ?_)))))
   refine Las rfl rfl (Lnt (Gsr (Las rfl rfl (Las rfl rfl (Lnt (Gs.seq (Gsr (Lmv rfl rfl (Lmv rfl rfl (Lq rfl (pu_gt rfl rfl) (Lnt ?_)))))))))))
   refine Gs.cut (E := [(0, .slice (some ⟨ab, ao, none⟩) n c), (1, int p), (2, int m), (3, int q), (4, cmpR), (18, int mid), (19, int ((mid + m : Nat) : Int)), (20, int lo), (21, int hi)]) (I := ([rsA (some ⟨ab, ao, none⟩) c (P ++ (A ++ (B ++ Q)))] ++ R)) ?_ ?_
   ·
    refine Gs.cond rfl (fun hc8 => ?_) (fun hc8 => ?_)
    ·
     have hcm : mid < m := by have := of_decide_eq_true hc8; omega
     rw [if_pos hcm] at hlod hhid
     subst hhid
     refine Gsr (Lmv rfl rfl (Lmv rfl rfl (Lq rfl (pu_subI (z := ((lo : Nat) : Int)) rfl rfl (by omega) (by omega) (by omega)) ?_)))
     refine Las rfl rfl (Lnt (Gs.reg (Lmv rfl rfl (Las rfl rfl (Lnt ?_)))))
     exact Gs.cutEnd (by repeat constructor) (by repeat constructor)
    have hcm : ¬ mid < m := by have := of_decide_eq_false hc8; omega
    rw [if_neg hcm] at hlod hhid
    subst hlod; subst hhid
    refine Gsr (Lmv rfl rfl (Las rfl rfl (Lnt (Gs.reg (Lmv rfl rfl (Las rfl rfl (Lnt ?_)))))))
    exact Gs.cutEnd (by repeat constructor) (by repeat constructor)
   refine Gsr (Lmv rfl rfl (Lq rfl (pu_subI (z := ((mid + m - 1 : Nat) : Int)) rfl rfl (by omega) (by omega) (by omega)) ?_))
   refine Las rfl rfl (Lnt (Gs.seq (Gs.block (Gs.loop1 (fun s : Nat × Nat => lo ≤ s.1 ∧ s.1 ≤ s.2 ∧ s.2 ≤ hi ∧ (∀ x y, lo < s.1 → A[s.1 - 1 - p]? = some x → B[mid - s.1]? = some y → lessR y x = false) ∧ (∀ x y, s.2 < hi → A[s.2 - p]? = some x → B[mid - 1 - s.2]? = some y → lessR y x = true)) (fun s => [(0, .slice (some ⟨ab, ao, none⟩) n c), (1, int p), (2, int m), (3, int q), (4, cmpR), (18, int mid), (19, int ((mid + m : Nat) : Int)), (20, int s.1), (21, int s.2), (22, int ((mid + m - 1 : Nat) : Int))]) (fun s => [rsA (some ⟨ab, ao, none⟩) c (P ++ (A ++ (B ++ Q)))] ++ R) (fun s => s.2 - s.1) (lo, hi) (⟨Nat.le_refl _, hlo1.2.1, Nat.le_refl _, fun x y h => by omega, fun x y h => by omega⟩) (by repeat constructor) (by repeat constructor) (fun s hs => ?_)))))
   obtain ⟨i, j⟩ := s
   obtain ⟨hi1, hij, hj, hlo, hhi⟩ := hs
   dsimp only at hi1 hij hj hlo hhi ⊢
   refine Gs.seq (Gsr (Lmv rfl rfl (Lmv rfl rfl (Lq rfl (pu_lt rfl rfl) (Lnt (Gs.cond rfl (fun hc9 => ?_) (fun hc9 => ?_)))))))
   ·
    have hlt : i < j := by have := of_decide_eq_true hc9; omega
    obtain ⟨k, hk⟩ : ∃ z, z = (i + j) / 2 := ⟨_, rfl⟩
    have hki : i ≤ k ∧ k < j := by omega
    obtain ⟨x, hx⟩ := some_at (l := A) (i := k - p) (by omega)
    obtain ⟨y, hy⟩ := some_at (l := B) (i := mid - 1 - k) (by omega)
    have gx : (P ++ (A ++ (B ++ Q)))[((k : Nat) : Int).toNat]? = some x := by
      rw [List.getElem?_append_right (by omega), List.getElem?_append_left (by omega), show ((k : Nat) : Int).toNat - P.length = k - p by omega]; exact hx
    have gy : (P ++ (A ++ (B ++ Q)))[(((mid + m - 1 : Nat) : Int) - (k : Int)).toNat]? = some y := by
      rw [List.getElem?_append_right (by omega), List.getElem?_append_right (by omega), List.getElem?_append_left (by omega), show (((mid + m - 1 : Nat) : Int) - (k : Int)).toNat - P.length - A.length = mid - 1 - k by omega]; exact hy
    refine Gs.skip (Gn (Gs.block (Gsr (Lmv rfl rfl (Lmv rfl rfl (Lq rfl (by first | exact pu_addI rfl rfl rfl (by omega) (by omega) | exact pu_add rfl rfl) ?_))))))
    refine Lq rfl (pu_conv Tryz.underlying3 Tryz.underlying185 rfl) (Lq rfl (pu_shr rfl rfl (by omega)) (Lq rfl (pu_conv Tryz.underlying185 Tryz.underlying3 rfl) ?_))
    rw [half (by omega), ← hk]
    refine Las rfl rfl (Lnt (Gs.seq (Gs.regD mixed (by kernel_rfl) (Rmv 0 rfl (by kernel_rfl) rfl (Rmv 1 rfl (by kernel_rfl) rfl (Rmv 2 rfl (by kernel_rfl) rfl (Rmv 3 rfl (by kernel_rfl) rfl (Rq 4 rfl (by kernel_rfl) (by first | exact pu_subI rfl rfl rfl (by omega) (by omega) | exact pu_sub rfl rfl) ?_))))))))
    refine Rq 5 rfl (by kernel_rfl) (pu_ia se_41 rfl rfl (by omega) (by omega)) (Rr 6 rfl (by kernel_rfl) (rd_lda ag_32 rfl (Rdc.el0 (SlH.own (xs := P ++ (A ++ (B ++ Q))) (E := 32) (enc := recC) (sz := 5) (by repeat constructor)) gy rfl rfl) rfl) ?_)
    refine Rmv 7 rfl (by kernel_rfl) rfl (Rmv 8 rfl (by kernel_rfl) rfl (Rq 9 rfl (by kernel_rfl) (pu_ia se_41 rfl rfl (by omega) (by omega)) (Rr 10 rfl (by kernel_rfl) (rd_lda ag_32 rfl (Rdc.el0 (SlH.own (xs := P ++ (A ++ (B ++ Q))) (E := 32) (enc := recC) (sz := 5) (by repeat constructor)) gx rfl rfl) rfl) ?_)))
    refine Rg.one (by kernel_rfl) (Stp.ac 11 rfl rfl (by kernel_rfl) trivial (as_callV rfl (hcmp y x) (by repeat constructor) (by repeat constructor))  ?_)
    rintro _ _ ⟨_, ⟨rfl, rfl⟩, rfl⟩
    refine Rq 12 rfl (by kernel_rfl) (pu_lt rfl rfl) (Rq 13 rfl (by kernel_rfl) (pu_not rfl) (Rg.end (by kernel_rfl) (Gn (Gs.cond rfl (fun hc10 => ?_) (fun hc10 => ?_)))))
    ·
     have hyx : lessR y x = false := by rw [← ordR_lt]; simpa using hc10
     refine Gs.reg (Lmv rfl rfl (Lq rfl (pu_addI (z := ((k + 1 : Nat) : Int)) rfl rfl (by omega) (by omega) (by omega)) ?_))
     refine Las rfl rfl (Lnil (Gs.blk_n (Gn ?_)))
     first | exact Ag (k + 1, j) ⟨by show lo ≤ k + 1; omega, by show k + 1 ≤ j; omega, hj, fun u v _ hu hv => by rw [show k + 1 - 1 - p = k - p by omega, hx] at hu; rw [show mid - (k + 1) = mid - 1 - k by omega, hy] at hv; cases hu; cases hv; exact hyx, hhi⟩ (by show j - (k + 1) < j - i; omega) | exact Ag (i, k) ⟨hi1, by show i ≤ k; omega, by show k ≤ hi; omega, hlo, fun u v _ hu hv => by rw [hx] at hu; rw [hy] at hv; cases hu; cases hv; exact hyx⟩ (by show k - i < j - i; omega)
    have hyx : lessR y x = true := by rw [← ordR_lt]; simpa using hc10
    refine Gs.reg (Lmv rfl rfl (Las rfl rfl (Lnil (Gs.blk_n (Gn ?_)))))
    first | exact Ag (k + 1, j) ⟨by show lo ≤ k + 1; omega, by show k + 1 ≤ j; omega, hj, fun u v _ hu hv => by rw [show k + 1 - 1 - p = k - p by omega, hx] at hu; rw [show mid - (k + 1) = mid - 1 - k by omega, hy] at hv; cases hu; cases hv; exact hyx, hhi⟩ (by show j - (k + 1) < j - i; omega) | exact Ag (i, k) ⟨hi1, by show i ≤ k; omega, by show k ≤ hi; omega, hlo, fun u v _ hu hv => by rw [hx] at hu; rw [hy] at hv; cases hu; cases hv; exact hyx⟩ (by show k - i < j - i; omega)
   have hge : i = j := by have := of_decide_eq_false hc9; omega
   subst hge
   obtain ⟨A1, hA1⟩ : ∃ z, z = A.take (i - p) := ⟨_, rfl⟩
   obtain ⟨A2, hA2'⟩ : ∃ z, z = A.drop (i - p) := ⟨_, rfl⟩
   obtain ⟨B1, hB1⟩ : ∃ z, z = B.take (mid - i) := ⟨_, rfl⟩
   obtain ⟨B2, hB2'⟩ : ∃ z, z = B.drop (mid - i) := ⟨_, rfl⟩
   have hAs : A = A1 ++ A2 := by rw [hA1, hA2', List.take_append_drop]
   have hBs : B = B1 ++ B2 := by rw [hB1, hB2', List.take_append_drop]
   have hl1 : A1.length = i - p := by rw [hA1, List.length_take]; omega
   have hl2 : A2.length = m - i := by rw [hA2', List.length_drop]; omega
   have hl3 : B1.length = mid - i := by rw [hB1, List.length_take]; omega
   have hl4 : B2.length = q - (mid + m - i) := by rw [hB2', List.length_drop]; omega
   have hcut := cut_both ordL (A := A) (B := B) (i := i - p) (k := mid - i) (by omega) (by omega) hap hA hB (fun x y h0 h1 h2 => by
     by_cases e : lo < i
     · rw [show i - p - 1 = i - 1 - p by omega] at h1
       exact hlo x y e h1 h2
     · exfalso
       have := (List.getElem?_eq_some_iff.1 h2).1
       rw [hlod] at e hi1; split at e <;> omega) (fun x y h0 h1 h2 => by
     by_cases e : i < hi
     · rw [show mid - i - 1 = mid - 1 - i by omega] at h1
       exact hhi x y e h2 h1
     · exfalso
       have := (List.getElem?_eq_some_iff.1 h2).1
       rw [hhid] at e hj; split at e <;> omega)
   rw [← hA1, ← hA2', ← hB1, ← hB2'] at hcut
   rw [hAs, hBs] at hap
   have hapP : List.Perm ((A1 ++ A2) ++ (B1 ++ B2)) ((A1 ++ B1) ++ (A2 ++ B2)) := by
     rw [List.append_assoc, List.append_assoc]
     refine List.Perm.append_left A1 ?_
     rw [← List.append_assoc, ← List.append_assoc]
     exact List.Perm.append_right B2 List.perm_append_comm
   have hap2 := hap.perm hapP
   have hap1 : Apart lessR (A1 ++ B1) := (List.pairwise_append.1 hap2).1
   have hap3 : Apart lessR (A2 ++ B2) := (List.pairwise_append.1 hap2).2.1
   have hAA := hA
   have hBB := hB
   rw [hAs] at hAA
   rw [hBs] at hBB
   have hs1 : Asc lessR A1 := (List.pairwise_append.1 hAA).1
   have hs2 : Asc lessR A2 := (List.pairwise_append.1 hAA).2.1
   have hs3 : Asc lessR B1 := (List.pairwise_append.1 hBB).1
   have hs4 : Asc lessR B2 := (List.pairwise_append.1 hBB).2.1
   have hlist : P ++ (A ++ (B ++ Q)) = (P ++ A1) ++ (A2 ++ (B1 ++ (B2 ++ Q))) := by rw [hAs, hBs]; simp
   have hlist2 : (P ++ A1) ++ (B1 ++ (A2 ++ (B2 ++ Q))) = P ++ (A1 ++ (B1 ++ (A2 ++ (B2 ++ Q)))) := by simp
   have hfin : ∀ C1 C2, IsS (A1 ++ B1) C1 → IsS (A2 ++ B2) C2 → IsS (A ++ B) (C1 ++ C2) := fun C1 C2 h1 h2 => by
     refine ⟨(h1.1.append h2.1).trans ?_, Asc.app h1.2 h2.2 fun u hu v hv => hcut u (h1.1.subset hu) v (h2.1.subset hv)⟩
     rw [hAs, hBs]; exact hapP.symm
   have hmp : mid = p + (A1 ++ B1).length := by rw [List.length_append]; omega
   rw [hlist]
   refine Gs.exit (Gx (Gx (Gs.blk_hit (Gn (Gsr (Lmv rfl rfl (Lmv rfl rfl (Lq rfl (pu_subI (z := ((mid + m - i : Nat) : Int)) rfl rfl (by omega) (by omega) (by omega)) ?_))))))))
   refine Las rfl rfl (Lnt (Gs.seq (Gs.cut (E := [(0, .slice (some ⟨ab, ao, none⟩) n c), (1, int p), (2, int m), (3, int q), (4, cmpR), (18, int mid), (20, int i), (24, int ((mid + m - i : Nat) : Int))]) (I := ([rsA (some ⟨ab, ao, none⟩) c (P ++ (A1 ++ (B1 ++ (A2 ++ (B2 ++ Q)))))] ++ R)) ?_ ?_)))
   ·
    refine Gsr (Lmv rfl rfl (Lmv rfl rfl (Lq rfl (pu_lt rfl rfl) (LpuB rfl rfl trivial (pu_move rfl) (fun hg3 => ?_) (fun hg3 => ?_)))))
    ·
     have hA2n : A2 ≠ [] := fun e => by rw [e] at hl2; have := of_decide_eq_true hg3; simp at hl2; omega
     refine Lpu rfl rfl ⟨_, rfl, rfl⟩ (pu_move rfl) (Lpu rfl rfl ⟨_, rfl, rfl⟩ (pu_move rfl) (Lpu rfl rfl ⟨_, rfl, rfl⟩ (pu_lt rfl rfl) (Lpk rfl rfl rfl (Lnt (Gs.cond rfl (fun hc11 => ?_) (fun hc11 => ?_))))))
     ·
      have hB1n : B1 ≠ [] := fun e => by rw [e] at hl3; have := of_decide_eq_true hc11; simp at hl3; omega
      refine Gs.reg (Lmv rfl rfl (Lmv rfl rfl (Lmv rfl rfl (Lmv rfl rfl (Lmv rfl rfl (La rfl (asC (rotR_spec (some ⟨ab, ao, none⟩) c (p := (i : Int)) (q := (m : Int)) (b := ((mid + m - i : Nat) : Int)) (n := n) (D := P ++ A1) (U := A2) (V := B1) (E := B2 ++ Q) (by rw [List.length_append]; omega) (by rw [List.length_append]; omega) (by rw [List.length_append]; omega) hA2n hB1n (by rw [← hlist]; exact hn) (by omega))) ?_))))))
      rintro _ _ ⟨_, ⟨rfl, rfl⟩, rfl⟩
      refine Lnil ?_
      rw [hlist2]
      refine Gn ?_
      exact Gs.cutEnd (by repeat constructor) (by repeat constructor)
     have he : B1 = [] := List.length_eq_zero_iff.1 (by have := of_decide_eq_false hc11; omega)
     rw [show (P ++ A1) ++ (A2 ++ (B1 ++ (B2 ++ Q))) = P ++ (A1 ++ (B1 ++ (A2 ++ (B2 ++ Q)))) by rw [he]; simp]
     refine Gs.skip (Gn ?_)
     exact Gs.cutEnd (by repeat constructor) (by repeat constructor)
    have he : A2 = [] := List.length_eq_zero_iff.1 (by have := of_decide_eq_false hg3; omega)
    rw [show (P ++ A1) ++ (A2 ++ (B1 ++ (B2 ++ Q))) = P ++ (A1 ++ (B1 ++ (A2 ++ (B2 ++ Q)))) by rw [he]; simp]
    refine Lof rfl (Lof rfl (Lof rfl (Lpk rfl rfl rfl (Lnt (Gs.cond_f rfl (Gs.skip (Gn ?_)))))))
    exact Gs.cutEnd (by repeat constructor) (by repeat constructor)
   refine Gs.seq (Gs.cut (E := [(0, .slice (some ⟨ab, ao, none⟩) n c), (1, int p), (2, int m), (3, int q), (4, cmpR), (18, int mid), (20, int i), (24, int ((mid + m - i : Nat) : Int))]) (I := ([rsE (some ⟨ab, ao, none⟩) c P (A1 ++ B1) (A2 ++ (B2 ++ Q))] ++ R)) ?_ ?_)
   ·
    refine Gsr (Lmv rfl rfl (Lmv rfl rfl (Lq rfl (pu_lt rfl rfl) (LpuB rfl rfl trivial (pu_move rfl) (fun hg3 => ?_) (fun hg3 => ?_)))))
    ·
     have hA1n : 0 < A1.length := by have := of_decide_eq_true hg3; omega
     refine Lpu rfl rfl ⟨_, rfl, rfl⟩ (pu_move rfl) (Lpu rfl rfl ⟨_, rfl, rfl⟩ (pu_move rfl) (Lpu rfl rfl ⟨_, rfl, rfl⟩ (pu_lt rfl rfl) (Lpk rfl rfl rfl (Lnt (Gs.cond rfl (fun hc12 => ?_) (fun hc12 => ?_))))))
     ·
      have hB1n : 0 < B1.length := by have := of_decide_eq_true hc12; omega
      refine Gs.reg (Lmv rfl rfl (Lmv rfl rfl (Lmv rfl rfl (Lmv rfl rfl (Lmv rfl rfl (La rfl (asC (ih (P := P) (A := A1) (B := B1) (Q := A2 ++ (B2 ++ Q)) (p := p) (m := i) (q := mid) hp (by omega) (by omega) (by omega) hs1 hs3 hap1 hA1n hB1n (by rw [hn, hlist, ← hlist2]; simp; omega) hl)) ?_))))))
      rintro _ _ ⟨_, ⟨rfl, rfl⟩, rfl⟩
      refine Lnt ?_
      exact Gs.cutEnd (by repeat constructor) (by repeat constructor)
     have he : B1 = [] := List.length_eq_zero_iff.1 (by have := of_decide_eq_false hc12; omega)
     refine Gs.ent (rsE_mk (P := P) (Q := A2 ++ (B2 ++ Q)) (S := A1 ++ B1) (C := A1) ⟨by rw [he, List.append_nil], hs1⟩ (by rw [he]; simp)) ?_
     refine Gs.skip (Gn ?_)
     exact Gs.cutEnd (by repeat constructor) (by repeat constructor)
    have he : A1 = [] := List.length_eq_zero_iff.1 (by have := of_decide_eq_false hg3; omega)
    refine Gs.ent (rsE_mk (P := P) (Q := A2 ++ (B2 ++ Q)) (S := A1 ++ B1) (C := B1) ⟨by rw [he]; exact List.Perm.refl _, hs3⟩ (by rw [he]; simp)) ?_
    refine Lof rfl (Lof rfl (Lof rfl (Lpk rfl rfl rfl (Lnt (Gs.cond_f rfl (Gs.skip (Gn ?_)))))))
    exact Gs.cutEnd (by repeat constructor) (by repeat constructor)
   refine Gs.rsE fun C1 hC1 => ?_
   have hC1l : C1.length = (A1 ++ B1).length := hC1.1.length_eq
   have hlist3 : P ++ (C1 ++ (A2 ++ (B2 ++ Q))) = (P ++ C1) ++ (A2 ++ (B2 ++ Q)) := by simp
   rw [hlist3]
   refine Gsr (Lmv rfl rfl (Lmv rfl rfl (Lq rfl (pu_lt rfl rfl) (LpuB rfl rfl trivial (pu_move rfl) (fun hg3 => ?_) (fun hg3 => ?_)))))
   ·
    have hA2n : 0 < A2.length := by have := of_decide_eq_true hg3; omega
    refine Lpu rfl rfl ⟨_, rfl, rfl⟩ (pu_move rfl) (Lpu rfl rfl ⟨_, rfl, rfl⟩ (pu_move rfl) (Lpu rfl rfl ⟨_, rfl, rfl⟩ (pu_lt rfl rfl) (Lpk rfl rfl rfl (Lnt (Gs.cond rfl (fun hc13 => ?_) (fun hc13 => ?_))))))
    ·
     have hB2n : 0 < B2.length := by have := of_decide_eq_true hc13; omega
     refine Gs.reg (Lmv rfl rfl (Lmv rfl rfl (Lmv rfl rfl (Lmv rfl rfl (Lmv rfl rfl (La rfl (asC (ih (P := P ++ C1) (A := A2) (B := B2) (Q := Q) (p := mid) (m := mid + m - i) (q := q) (by rw [List.length_append]; omega) (by rw [List.length_append]; omega) (by rw [List.length_append]; omega) (by omega) hs2 hs4 hap3 hA2n hB2n (by rw [hn, hlist]; simp; rw [List.length_append] at hC1l; omega) hl)) ?_))))))
     rintro _ _ ⟨_, ⟨rfl, rfl⟩, rfl⟩
     refine Lnil (Gs.rsE fun C2 hC2 => ?_)
     refine Gs.ent (rsE_mk (P := P) (Q := Q) (S := A ++ B) (hfin C1 C2 hC1 hC2) (by simp)) ?_
     refine Gs.fin_n ?_
     exact Gs.fin0 Tryz.results206 _ (⟨rfl, rfl⟩) (by repeat constructor)
    have he : B2 = [] := List.length_eq_zero_iff.1 (by have := of_decide_eq_false hc13; omega)
    refine Gs.ent (rsE_mk (P := P) (Q := Q) (S := A ++ B) (hfin C1 A2 hC1 ⟨by rw [he, List.append_nil], hs2⟩) (by rw [he]; simp)) ?_
    refine Gs.skip (Gs.fin_n ?_)
    exact Gs.fin0 Tryz.results206 _ (⟨rfl, rfl⟩) (by repeat constructor)
   have he : A2 = [] := List.length_eq_zero_iff.1 (by have := of_decide_eq_false hg3; omega)
   refine Gs.ent (rsE_mk (P := P) (Q := Q) (S := A ++ B) (hfin C1 B2 hC1 ⟨by rw [he]; exact List.Perm.refl _, hs4⟩) (by rw [he]; simp)) ?_
   refine Lof rfl (Lof rfl (Lof rfl (Lpk rfl rfl rfl (Lnt (Gs.cond_f rfl (Gs.skip (Gs.fin_n ?_)))))))
   exact Gs.fin0 Tryz.results206 _ (⟨rfl, rfl⟩) (by repeat constructor)
end Go.Proofs.YtklgiidfompdpaaGreatDoor
namespace Go.Stb
open Go
variable {α : Type} {lt : α → α → Bool}
def BlkA (lt : α → α → Bool) (s : Nat) (l : List α) : Prop := ∀ i, Asc lt ((l.drop (i * s)).take s)
theorem blk_none {l : List α} {i s : Nat} (h : l.length ≤ i * s) : Asc lt ((l.drop (i * s)).take s) := by
 rw [List.drop_of_length_le h, List.take_nil]; exact List.Pairwise.nil
theorem cut3 (l : List α) (m s : Nat) : l = l.take m ++ ((l.drop m).take s ++ l.drop (m + s)) := by
 rw [← List.drop_drop, List.take_append_drop, List.take_append_drop]
theorem cut4 (l : List α) (m s : Nat) : l = l.take m ++ ((l.drop m).take s ++ ((l.drop (m + s)).take s ++ l.drop (m + s + s))) := by
 have h2 : l.drop (m + s) = (l.drop (m + s)).take s ++ l.drop (m + s + s) := by rw [← List.drop_drop (i := s) (j := m + s), List.take_append_drop]
 rw [← h2]; exact cut3 l m s
theorem blk_right {X Y Q : List α} {m s : Nat} (h : X.length = Y.length) (hm : X.length ≤ m) : ((X ++ Q).drop m).take s = ((Y ++ Q).drop m).take s := by
 rw [List.drop_append, List.drop_append, List.drop_of_length_le (l := X) hm, List.drop_of_length_le (l := Y) (h ▸ hm), h]
theorem blk_left {P T U : List α} {i s : Nat} (h : i * s + s ≤ P.length) : ((P ++ T).drop (i * s)).take s = ((P ++ U).drop (i * s)).take s := by rw [block_pre h, block_pre h]
theorem blk_next {l P C Q : List α} {k s : Nat} (hP : P = l.take (k * s)) (hk : k * s ≤ l.length) (hC : Asc lt C) (hCl : C.length = s ∨ (C.length ≤ s ∧ Q = [])) (h : ∀ i, i < k → Asc lt ((l.drop (i * s)).take s)) : ∀ i, i < k + 1 → Asc lt (((P ++ (C ++ Q)).drop (i * s)).take s) := fun i hi => by
 have hPl : P.length = k * s := by rw [hP, List.length_take]; omega
 by_cases e : i = k
 · subst e; rw [block_mid hPl hCl]; exact hC
 · have hle : i * s + s ≤ P.length := by
     rw [hPl, ← Nat.succ_mul]; exact Nat.mul_le_mul_right _ (by omega)
   rw [blk_left (U := l.drop (k * s)) hle, hP, List.take_append_drop]
   exact h i (by omega)
end Go.Stb
namespace Go.Proofs.YtklgiidfompdpaaGreatDoor
open Go Go.Sl Go.Gv Go.Kv Go.Po Go.Ix Go.Stb
set_option maxRecDepth 100000
set_option maxHeartbeats 1000000 in
theorem stR_spec (a : Option Addr) (c : Nat) {xs : List Rec} (hap : Apart lessR xs) {n : Nat} (hn : n = xs.length) (hl : n ≤ 10000) :
   Ct Tryz.prog 162 [.slice a n c, int n, cmpR] [rsA a c xs] (fun v hs => v = .tuple #[] ∧ hs = [rsE a c [] xs []]) := by
 refine Cti Tryz.func162 (by kernel_rfl) 63 Tryz.ntmps162 rfl rfl fun w0 R => ?_
 refine Gsr (Las rfl rfl (Lnt (Gsr (Lmv rfl rfl (Las rfl rfl (Las rfl rfl (Lnt (Gs.seq (Gs.block (Gs.loop1 (fun s : Nat × List Rec => s.1 * 20 ≤ n ∧ List.Perm s.2 xs ∧ ∀ i, i < s.1 → Asc lessR ((s.2.drop (i * 20)).take 20)) (fun s => [(0, .slice a n c), (1, int n), (2, cmpR), (6, int ((20 : Nat) : Int)), (7, int ((s.1 * 20 : Nat) : Int)), (8, int ((s.1 * 20 + 20 : Nat) : Int))]) (fun s => [rsA a c s.2] ++ R) (fun s => n - s.1 * 20) (0, xs) (⟨by omega, List.Perm.refl _, fun i h => by omega⟩) (by repeat constructor) (by repeat constructor) (fun s hs => ?_)))))))))))
 obtain ⟨k, l⟩ := s
 obtain ⟨hk, hp, hb⟩ := hs
 dsimp only at hk hp hb ⊢
 have hll : l.length = n := by rw [hp.length_eq, hn]
 have hapl : Apart lessR l := hap.perm hp.symm
 refine Gs.seq (Gsr (Lmv rfl rfl (Lmv rfl rfl (Lq rfl (pu_le rfl rfl) (Lnt (Gs.cond rfl (fun hc0 => ?_) (fun hc0 => ?_)))))))
 ·
  have hle : k * 20 + 20 ≤ n := by have := of_decide_eq_true hc0; omega
  have hcut := cut3 l (k * 20) 20
  obtain ⟨P, hP⟩ : ∃ z, z = l.take (k * 20) := ⟨_, rfl⟩
  obtain ⟨S, hS⟩ : ∃ z, z = (l.drop (k * 20)).take 20 := ⟨_, rfl⟩
  obtain ⟨Q, hQ⟩ : ∃ z, z = l.drop (k * 20 + 20) := ⟨_, rfl⟩
  rw [← hP, ← hS, ← hQ] at hcut
  have hPl : P.length = k * 20 := by rw [hP, List.length_take]; omega
  have hSl : S.length = 20 := by rw [hS, List.length_take, List.length_drop]; omega
  have hapS : Apart lessR S := (List.pairwise_append.1 (List.pairwise_append.1 (hcut ▸ hapl)).2.1).1
  have hnl : n = (P ++ (S ++ Q)).length := by rw [← hcut]; exact hll.symm
  rw [hcut]
  refine Gs.skip (Gn (Gs.block (Gsr (Lmv rfl rfl (Lmv rfl rfl (Lmv rfl rfl (Lmv rfl rfl (La rfl (asC (insR_spec a c (P := P) (S := S) (Q := Q) (p := k * 20) (q := k * 20 + 20) (by omega) (by omega) hapS (n := n) hnl (by omega))) ?_))))))))
  rintro _ _ ⟨_, ⟨rfl, rfl⟩, rfl⟩
  refine Lnil (Gs.rsE fun C hC => ?_)
  have hCl : C.length = 20 := by rw [hC.1.length_eq]; exact hSl
  have hp2 : List.Perm (P ++ (C ++ Q)) xs := by
    refine List.Perm.trans ?_ hp
    rw [hcut]
    exact List.Perm.append_left P (hC.1.append_right Q)
  have hb2 := blk_next (k := k) (s := 20) (Q := Q) hP (by omega) hC.2 (.inl hCl) hb
  refine Gn (Gsr (Lmv rfl rfl (Las rfl rfl (Lnil ?_))))
  rw [show k * 20 + 20 = (k + 1) * 20 by omega]
  refine Gn (Gs.reg (Lmv rfl rfl (Lmv rfl rfl (Lq rfl (pu_addI (z := (((k + 1) * 20 + 20 : Nat) : Int)) rfl rfl (by omega) (by omega) (by omega)) ?_))))
  refine Las rfl rfl (Lnil (Gs.blk_n (Gn ?_)))
  exact Ag (k + 1, P ++ (C ++ Q)) ⟨by show (k + 1) * 20 ≤ n; omega, hp2, hb2⟩ (by show n - (k + 1) * 20 < n - k * 20; omega)
 have hgt : n < k * 20 + 20 := by have := of_decide_eq_false hc0; omega
 have hcut : l = l.take (k * 20) ++ (l.drop (k * 20) ++ []) := by rw [List.append_nil, List.take_append_drop]
 obtain ⟨P, hP⟩ : ∃ z, z = l.take (k * 20) := ⟨_, rfl⟩
 obtain ⟨S, hS⟩ : ∃ z, z = l.drop (k * 20) := ⟨_, rfl⟩
 rw [← hP, ← hS] at hcut
 have hPl : P.length = k * 20 := by rw [hP, List.length_take]; omega
 have hSl : S.length = n - k * 20 := by rw [hS, List.length_drop]; omega
 have hapS : Apart lessR S := (List.pairwise_append.1 (List.pairwise_append.1 (hcut ▸ hapl)).2.1).1
 have hnl : n = (P ++ (S ++ [])).length := by rw [← hcut]; exact hll.symm
 rw [hcut]
 refine Gs.exit (Gx (Gx (Gs.blk_hit (Gn (Gsr (Lmv rfl rfl (Lmv rfl rfl (Lmv rfl rfl (Lmv rfl rfl (La rfl (asC (insR_spec a c (P := P) (S := S) (Q := []) (p := k * 20) (q := n) (by omega) (by omega) hapS (n := n) hnl (by omega))) ?_))))))))))
 rintro _ _ ⟨_, ⟨rfl, rfl⟩, rfl⟩
 refine Lnil (Gs.rsE fun C hC => ?_)
 have hCl : C.length = n - k * 20 := by rw [hC.1.length_eq]; exact hSl
 obtain ⟨l0, hl0⟩ : ∃ z, z = P ++ (C ++ []) := ⟨_, rfl⟩
 have hp0 : List.Perm l0 xs := by
   refine List.Perm.trans ?_ hp
   rw [hl0, hcut]
   exact List.Perm.append_left P (hC.1.append_right [])
 have hl0l : l0.length = n := by rw [hp0.length_eq, hn]
 have hb0 : BlkA lessR 20 l0 := fun i => by
   by_cases hi : i < k + 1
   · rw [hl0]; exact blk_next (k := k) (s := 20) (Q := []) hP (by omega) hC.2 (.inr ⟨by omega, rfl⟩) hb i hi
   · exact blk_none (by rw [hl0l]; omega)
 rw [← hl0]
 refine Gn (Gs.block (Gs.loop1 (fun s : Nat × List Rec => 20 ≤ s.1 ∧ s.1 ≤ 40000 ∧ List.Perm s.2 xs ∧ BlkA lessR s.1 s.2) (fun s => [(0, .slice a n c), (1, int n), (2, cmpR), (6, int s.1)]) (fun s => [rsA a c s.2] ++ R) (fun s => n - s.1) (20, l0) (⟨Nat.le_refl _, by show 20 ≤ 40000; omega, hp0, hb0⟩) (by repeat constructor) (by repeat constructor) (fun s hs1 => ?_)))
 obtain ⟨bs, l1⟩ := s
 obtain ⟨hbs, hbs2, hp1, hb1⟩ := hs1
 dsimp only at hbs hbs2 hp1 hb1 ⊢
 refine Gs.seq (Gsr (Lmv rfl rfl (Lmv rfl rfl (Lq rfl (pu_lt rfl rfl) (Lnt (Gs.cond rfl (fun hc1 => ?_) (fun hc1 => ?_)))))))
 ·
  have hlt : bs < n := by have := of_decide_eq_true hc1; omega
  refine Gs.skip (Gn (Gs.block (Gsr (Lmv rfl rfl (Lq rfl (pu_mulI (z := ((0 * (2 * bs) + 2 * bs : Nat) : Int)) rfl rfl (by omega) (by omega) (by omega)) ?_)))))
  refine Las rfl rfl (Las rfl rfl (Lnil ?_))
  rw [show (Value.int .i64 0) = int ((0 * (2 * bs) : Nat) : Int) by rw [Nat.zero_mul]; rfl]
  refine Gn (Gs.seq (Gs.block (Gs.loop1 (fun s : Nat × List Rec => s.1 * (2 * bs) ≤ n ∧ List.Perm s.2 xs ∧ (∀ i, i < s.1 → Asc lessR ((s.2.drop (i * (2 * bs))).take (2 * bs))) ∧ ∀ j, 2 * s.1 ≤ j → Asc lessR ((s.2.drop (j * bs)).take bs)) (fun s => [(0, .slice a n c), (1, int n), (2, cmpR), (6, int bs), (7, int ((s.1 * (2 * bs) : Nat) : Int)), (8, int ((s.1 * (2 * bs) + 2 * bs : Nat) : Int))]) (fun s => [rsA a c s.2] ++ R) (fun s => n - s.1 * (2 * bs)) (0, l1) (⟨by show 0 * (2 * bs) ≤ n; omega, hp1, fun i h => by omega, fun j _ => hb1 j⟩) (by repeat constructor) (by repeat constructor) (fun s hs2 => ?_))))
  obtain ⟨k, l⟩ := s
  obtain ⟨hk, hp, hb, hbr⟩ := hs2
  dsimp only at hk hp hb hbr ⊢
  have hll : l.length = n := by rw [hp.length_eq, hn]
  have hapl : Apart lessR l := hap.perm hp.symm
  obtain ⟨m, hm⟩ : ∃ z, z = k * (2 * bs) := ⟨_, rfl⟩
  have hm2 : 2 * k * bs = m := by rw [hm, Nat.mul_comm 2 k, Nat.mul_assoc]
  have hm3 : (2 * k + 1) * bs = m + bs := by rw [Nat.succ_mul, hm2]
  have hk1 : (k + 1) * (2 * bs) = m + 2 * bs := by rw [Nat.succ_mul, ← hm]
  have hba : Asc lessR ((l.drop m).take bs) := by have h9 := hbr (2 * k) (Nat.le_refl _); rwa [hm2] at h9
  have hbb : Asc lessR ((l.drop (m + bs)).take bs) := by have h9 := hbr (2 * k + 1) (by omega); rwa [hm3] at h9
  rw [← hm] at hk ⊢
  refine Gs.seq (Gsr (Lmv rfl rfl (Lmv rfl rfl (Lq rfl (pu_le rfl rfl) (Lnt (Gs.cond rfl (fun hc2 => ?_) (fun hc2 => ?_)))))))
  ·
   have hle : m + 2 * bs ≤ n := by have := of_decide_eq_true hc2; omega
   have hcut := cut4 l m bs
   obtain ⟨P, hP⟩ : ∃ z, z = l.take m := ⟨_, rfl⟩
   obtain ⟨A, hA⟩ : ∃ z, z = (l.drop m).take bs := ⟨_, rfl⟩
   obtain ⟨B, hB⟩ : ∃ z, z = (l.drop (m + bs)).take bs := ⟨_, rfl⟩
   obtain ⟨Q, hQ⟩ : ∃ z, z = l.drop (m + bs + bs) := ⟨_, rfl⟩
   rw [← hP, ← hA, ← hB, ← hQ] at hcut
   rw [← hA] at hba
   rw [← hB] at hbb
   have hPl : P.length = m := by rw [hP, List.length_take]; omega
   have hAl : A.length = bs := by rw [hA, List.length_take, List.length_drop]; omega
   have hBl : B.length = bs := by rw [hB, List.length_take, List.length_drop]; omega
   have hapS : Apart lessR (A ++ B) := by
     have h9 := (List.pairwise_append.1 (hcut ▸ hapl)).2.1
     rw [← List.append_assoc] at h9
     exact (List.pairwise_append.1 h9).1
   have hnl : n = (P ++ (A ++ (B ++ Q))).length := by rw [← hcut]; exact hll.symm
   rw [hcut]
   refine Gs.skip (Gn (Gs.block (Gsr (Lmv rfl rfl (Lmv rfl rfl (Lmv rfl rfl (Lmv rfl rfl (Lq rfl (pu_addI (z := ((m + bs : Nat) : Int)) rfl rfl (by omega) (by omega) (by omega)) ?_))))))))
   refine Lmv rfl rfl (Lmv rfl rfl (La rfl (asC (symR_spec a c (A.length + B.length) (P := P) (A := A) (B := B) (Q := Q) (p := m) (m := m + bs) (q := m + 2 * bs) hPl.symm (by omega) (by omega) (Nat.le_refl _) hba hbb hapS (by omega) (by omega) (n := n) hnl (by omega))) ?_))
   rintro _ _ ⟨_, ⟨rfl, rfl⟩, rfl⟩
   refine Lnil (Gs.rsE fun C hC => ?_)
   have hCl : C.length = 2 * bs := by rw [hC.1.length_eq, List.length_append]; omega
   have hp2 : List.Perm (P ++ (C ++ Q)) xs := by
     refine List.Perm.trans ?_ hp
     rw [hcut, ← List.append_assoc A]
     exact List.Perm.append_left P (hC.1.append_right Q)
   have hb2 := blk_next (k := k) (s := 2 * bs) (Q := Q) (hm ▸ hP) (by omega) hC.2 (.inl hCl) hb
   have hbr2 : ∀ j, 2 * (k + 1) ≤ j → Asc lessR (((P ++ (C ++ Q)).drop (j * bs)).take bs) := fun j hj => by
     have e1 : P ++ (C ++ Q) = (P ++ C) ++ Q := by simp
     have e2 : l = (P ++ (A ++ B)) ++ Q := by rw [hcut]; simp
     have e3 : m + 2 * bs ≤ j * bs := by
       have h9 : 2 * (k + 1) * bs ≤ j * bs := Nat.mul_le_mul_right _ hj
       rw [Nat.mul_comm 2, Nat.mul_assoc, hk1] at h9; exact h9
     rw [e1, blk_right (Y := P ++ (A ++ B)) (by simp; omega) (by simp; omega), ← e2]
     exact hbr j (by omega)
   refine Gn (Gsr (Lmv rfl rfl (Las rfl rfl (Lnt (Gs.reg (Lmv rfl rfl (Lmv rfl rfl (Lq rfl (pu_mulI (z := ((2 * bs : Nat) : Int)) rfl rfl (by omega) (by omega) (by omega)) ?_))))))))
   refine Lq rfl (pu_addI (z := ((m + 2 * bs + 2 * bs : Nat) : Int)) rfl rfl (by omega) (by omega) (by omega)) ?_
   refine Las rfl rfl (Lnil ?_)
   rw [← hk1]
   refine Gs.blk_n (Gn ?_)
   exact Ag (k + 1, P ++ (C ++ Q)) ⟨by show (k + 1) * (2 * bs) ≤ n; omega, hp2, hb2, hbr2⟩ (by show n - (k + 1) * (2 * bs) < n - k * (2 * bs); rw [hk1, ← hm]; omega)
  have hgt : n < m + 2 * bs := by have := of_decide_eq_false hc2; omega
  refine Gs.exit (Gx (Gx (Gs.blk_hit (Gn (Gs.seq (Gsr (Lmv rfl rfl (Lmv rfl rfl (Lq rfl (pu_addI (z := ((m + bs : Nat) : Int)) rfl rfl (by omega) (by omega) (by omega)) ?_)))))))))
  refine Las rfl rfl (Lnt (Gsr (Lmv rfl rfl (Lmv rfl rfl (Lq rfl (pu_lt rfl rfl) (Lnt (Gs.cond rfl (fun hc3 => ?_) (fun hc3 => ?_))))))))
  ·
   have hle : m + bs < n := by have := of_decide_eq_true hc3; omega
   have hBt : (l.drop (m + bs)).take bs = l.drop (m + bs) := List.take_of_length_le (by rw [List.length_drop]; omega)
   have hcut : l = l.take m ++ ((l.drop m).take bs ++ (l.drop (m + bs) ++ [])) := by rw [List.append_nil]; exact cut3 l m bs
   obtain ⟨P, hP⟩ : ∃ z, z = l.take m := ⟨_, rfl⟩
   obtain ⟨A, hA⟩ : ∃ z, z = (l.drop m).take bs := ⟨_, rfl⟩
   obtain ⟨B, hB⟩ : ∃ z, z = l.drop (m + bs) := ⟨_, rfl⟩
   rw [← hP, ← hA, ← hB] at hcut
   rw [← hA] at hba
   rw [hBt, ← hB] at hbb
   have hPl : P.length = m := by rw [hP, List.length_take]; omega
   have hAl : A.length = bs := by rw [hA, List.length_take, List.length_drop]; omega
   have hBl : B.length = n - (m + bs) := by rw [hB, List.length_drop]; omega
   have hapS : Apart lessR (A ++ B) := by
     have h9 := (List.pairwise_append.1 (hcut ▸ hapl)).2.1
     rw [List.append_nil] at h9
     exact h9
   have hnl : n = (P ++ (A ++ (B ++ []))).length := by rw [← hcut]; exact hll.symm
   rw [hcut]
   refine Gs.reg (Lmv rfl rfl (Lmv rfl rfl (Lmv rfl rfl (Lmv rfl rfl (Lmv rfl rfl (La rfl (asC (symR_spec a c (A.length + B.length) (P := P) (A := A) (B := B) (Q := []) (p := m) (m := m + bs) (q := n) hPl.symm (by omega) (by omega) (Nat.le_refl _) hba hbb hapS (by omega) (by omega) (n := n) hnl (by omega))) ?_))))))
   rintro _ _ ⟨_, ⟨rfl, rfl⟩, rfl⟩
   refine Lnil (Gs.rsE fun C hC => ?_)
   have hCl : C.length = n - m := by rw [hC.1.length_eq, List.length_append]; omega
   obtain ⟨l2, hl2⟩ : ∃ z, z = P ++ (C ++ []) := ⟨_, rfl⟩
   have hp3 : List.Perm l2 xs := by
     refine List.Perm.trans ?_ hp
     rw [hl2, hcut, ← List.append_assoc A]
     exact List.Perm.append_left P (hC.1.append_right [])
   have hl2l : l2.length = n := by rw [hp3.length_eq, hn]
   have hb3 : BlkA lessR (2 * bs) l2 := fun i => by
     by_cases hi : i < k + 1
     · rw [hl2]; exact blk_next (k := k) (s := 2 * bs) (Q := []) (hm ▸ hP) (by omega) hC.2 (.inr ⟨by omega, rfl⟩) hb i hi
     · refine blk_none ?_
       have h9 : (k + 1) * (2 * bs) ≤ i * (2 * bs) := Nat.mul_le_mul_right _ (by omega)
       omega
   rw [← hl2]
   refine Gn (Gs.reg (Lmv rfl rfl (Lq rfl (pu_mulI (z := ((2 * bs : Nat) : Int)) rfl rfl (by omega) (by omega) (by omega)) ?_)))
   refine Las rfl rfl (Lnil (Gs.blk_n (Gn ?_)))
   exact Ag (2 * bs, l2) ⟨by show 20 ≤ 2 * bs; omega, by show 2 * bs ≤ 40000; omega, hp3, hb3⟩ (by show n - 2 * bs < n - bs; omega)
  have hle : n ≤ m + bs := by have := of_decide_eq_false hc3; omega
  obtain ⟨l2, hl2⟩ : ∃ z, z = l := ⟨_, rfl⟩
  have hp3 : List.Perm l2 xs := hl2 ▸ hp
  have hb3 : BlkA lessR (2 * bs) l2 := fun i => by
    rw [hl2]
    by_cases hi : i < k
    · exact hb i hi
    · by_cases e : i = k
      · subst e
        have h1 : (l.drop m).take (2 * bs) = (l.drop m).take bs := by rw [List.take_of_length_le (by rw [List.length_drop]; omega), List.take_of_length_le (by rw [List.length_drop]; omega)]
        rw [← hm, h1]; exact hba
      · refine blk_none ?_
        have h9 : (k + 1) * (2 * bs) ≤ i * (2 * bs) := Nat.mul_le_mul_right _ (by omega)
        omega
  rw [← hl2]
  refine Gs.skip (Gn (Gs.reg (Lmv rfl rfl (Lq rfl (pu_mulI (z := ((2 * bs : Nat) : Int)) rfl rfl (by omega) (by omega) (by omega)) ?_))))
  refine Las rfl rfl (Lnil (Gs.blk_n (Gn ?_)))
  exact Ag (2 * bs, l2) ⟨by show 20 ≤ 2 * bs; omega, by show 2 * bs ≤ 40000; omega, hp3, hb3⟩ (by show n - 2 * bs < n - bs; omega)
 have hge : n ≤ bs := by have := of_decide_eq_false hc1; omega
 have hfin : IsS xs l1 := ⟨hp1, by
   have h9 := hb1 0
   rw [Nat.zero_mul, List.drop_zero, List.take_of_length_le (by rw [hp1.length_eq]; omega)] at h9
   exact h9⟩
 refine Gs.ent (rsE_mk (P := []) (Q := []) hfin (by simp)) ?_
 refine Gs.exit (Gx (Gx (Gs.blk_hit (Gs.fin_n ?_))))
 exact Gs.fin0 Tryz.results162 _ (⟨rfl, rfl⟩) (by repeat constructor)
theorem sortSt_spec (a : Option Addr) (c : Nat) {xs : List Rec} (hap : Apart lessR xs) (hl : xs.length ≤ 10000) :
   Ct Tryz.prog 114 [.slice a xs.length c, cmpR] [rsA a c xs] (fun v hs => v = .tuple #[] ∧ ∃ ys, IsS xs ys ∧ hs = [rsA a c ys]) := by
 refine Cti Tryz.func114 (by kernel_rfl) 9 Tryz.ntmps114 rfl rfl fun w0 R => ?_
 refine Gs.reg (Lmv rfl rfl (Lmv rfl rfl (Lq rfl (pu_len Tryz.underlying41 rfl) (Lmv rfl rfl (La rfl (asC (stR_spec a c hap rfl hl)) ?_)))))
 rintro _ _ ⟨_, ⟨rfl, rfl⟩, rfl⟩
 refine Lnil (Gs.rsE fun C hC => ?_)
 rw [List.nil_append, List.append_nil]
 refine Gs.fin_n ?_
 exact Gs.fin0 Tryz.results114 _ (⟨rfl, C, hC, rfl⟩) (by repeat constructor)
theorem cloneR_spec {S : HProp} {a : Option Addr} {c : Nat} {l : List Rec} (hS : Srd S 5 recC a l) (hl : l.length ≤ 100000) :
   Ct Tryz.prog 113 [.slice a l.length c] [S] (fun v hs => ∃ a' c', v = .slice a' l.length c' ∧ hs = [S, rsA a' c' l]) := by
 refine Cti Tryz.func113 (by kernel_rfl) 8 Tryz.ntmps113 rfl rfl fun w0 R => ?_
 refine Gs.slAddr (hS.h (by repeat constructor)) fun ab ao ha => ?_
 refine Gsr (Las rfl rfl (Lnt (Gs.seq (Gsr (Lmv rfl rfl (Lq rfl (pu_eqL Tryz.underlying41 rfl rfl) (Lnt (Gs.cond rfl (fun hc0 => ?_) (fun hc0 => ?_)))))))))
 ·
  have hnil : l = [] := Classical.byContradiction fun h => by rw [ha h] at hc0; cases hc0
  refine Gs.slNil 32 5 recC (Gsr (Las rfl rfl (Lnt (Gs.ret (Gr ?_)))))
  exact Gs.fin1 Tryz.results113 rfl _ (⟨none, 0, by rw [hnil]; rfl, by rw [hnil]⟩) (by repeat constructor)
 refine Gs.skip (Gn (Gsr (La rfl (ac_lit encC_32 (([] : List Rec)) et_41 ek_32 rfl (by repeat constructor) rfl rfl (by decide)) ?_)))
 rintro _ _ ⟨a5, rfl, rfl⟩
 refine Lmv rfl rfl (La rfl (ac_append (xs := ([] : List Rec)) (ys := l) et_41 ek_32 rfl rfl (by repeat constructor) (SrcH.sl Tryz.underlying41 ek_32 (hS.h (by repeat constructor))) (by simp; omega) (by simp; omega)) ?_)
 rintro _ _ ⟨a7, c7, rfl, rfl⟩
 refine Las rfl rfl (Lnt (Gs.ret ?_))
 exact Gs.fin1 Tryz.results113 rfl _ (⟨a7, c7, rfl, rfl⟩) (by repeat constructor)
theorem rsort_spec {S : HProp} {a : Option Addr} {c : Nat} {l : List Rec} (hS : Srd S 5 recC a l) (hap : Apart lessR l) (hl : l.length ≤ 10000) :
   Ct Tryz.prog 66 [.slice a l.length c] [S] (fun v hs => ∃ a' c' ys, v = .slice a' ys.length c' ∧ IsS l ys ∧ hs = [S, rsA a' c' ys]) := by
 refine Cti Tryz.func66 (by kernel_rfl) 9 Tryz.ntmps66 rfl rfl fun w0 R => ?_
 refine Gsr (Las rfl rfl (Lnt (Gsr (Lmv rfl rfl (La rfl (asC (cloneR_spec hS (by omega))) ?_)))))
 rintro _ _ ⟨_, ⟨na, nc, rfl, rfl⟩, rfl⟩
 refine Las rfl rfl (Lnt (Gsr (Lmv rfl rfl (La rfl (asC (sortSt_spec na nc hap hl)) ?_))))
 rintro _ _ ⟨_, ⟨rfl, ys, hys, rfl⟩, rfl⟩
 refine Lnil ?_
 rw [← hys.1.length_eq]
 refine Gn (Gsr (Lmv rfl rfl (Las rfl rfl (Lnt (Gs.ret ?_)))))
 exact Gs.fin1 Tryz.results66 rfl _ (⟨na, nc, ys, rfl, hys, rfl⟩) (by repeat constructor)
end Go.Proofs.YtklgiidfompdpaaGreatDoor
namespace Go.Proofs.YtklgiidfompdpaaGreatDoor
open Go Go.Sl Go.Gv Go.Kv Go.Po Go.Ix Go.Stb
set_option maxRecDepth 100000
end Go.Proofs.YtklgiidfompdpaaGreatDoor
namespace Go.Sl
open Go
section
variable {w0 : World} {n : Nat} {env : Env} {H : List HProp} {α : Type}
theorem Gs.slNS {E sz : Nat} {enc : α → List Value} {a : Option Addr} {c : Nat} {xs : List α} {H' : List HProp} {X : Act → World → Prop} (t : Take (sl E sz enc a c xs) H H') (g : xs.length ≤ c ∧ (∀ k, suba a 0 k sz = a) → Gs w0 n env H X) : Gs w0 n env H X := fun ac w e s => by
 refine g ?_ ac w e s
 obtain ⟨h0, x, -⟩ := (s.take t).toRo
 rcases x with ⟨rfl, rfl, rfl⟩ | ⟨b, off, _, rfl, _, h, _⟩
 · exact ⟨Nat.le_refl _, fun k => by unfold suba; split <;> rfl⟩
 · refine ⟨h, fun k => ?_⟩
   unfold suba; split
   · rfl
   · simp [Addr.add]
end
end Go.Sl
namespace Go.Proofs.YtklgiidfompdpaaGreatDoor
open Go Go.Sl Go.Gv Go.Kv Go.Po Go.Ix Go.Qu Go.Shelf Go.Stb
set_option maxRecDepth 100000
def hitB (d : Nat) (x : AskV) (z r : Rec) : Bool := !earlyB r z && HoldsB d x r
def mayQ (d : Nat) (x : AskV) (lim : Int) (z : Rec) : Bool := mayA d x && okQ lim z
def HitsIs (d : Nat) (x : AskV) (lim : Int) (z : Rec) (rs out : List Rec) : Prop := (mayQ d x lim z = true → IsS (rs.filter (hitB d x z)) out) ∧ (mayQ d x lim z = false → out = [])
def FindIs (d : Nat) (x : AskV) (lim : Int) (z : Rec) (rs out : List Rec) : Prop := ∃ ys, HitsIs d x lim z rs ys ∧ out = ys.take lim.toNat
theorem filt_keys {rs : List Rec} (hn : (rs.map Rec.key).Nodup) (f : Rec → Bool) : ((rs.filter f).map Rec.key).Nodup := List.Nodup.sublist (List.Sublist.map _ List.filter_sublist) hn
theorem filt_snoc {rs : List Rec} {f : Rec → Bool} {i : Nat} {r : Rec} (h : rs[i]? = some r) : (rs.take (i + 1)).filter f = (rs.take i).filter f ++ (if f r then [r] else []) := by
 rw [List.take_add_one, h, List.filter_append]
 congr 1
 show [r].filter f = _
 cases hf : f r
 · rw [List.filter_cons_of_neg (by simp [hf])]; rfl
 · rw [List.filter_cons_of_pos hf]; rfl
set_option maxHeartbeats 1000000 in
theorem scanFind_spec {S : HProp} (hT : TabW S) {d : Nat} {x : AskV} (hA : ARd S x) (hF : FewA d x) (hz : sizeA d x ≤ 1000) (hd : d ≤ 1000) (lim : Int) (z : Rec) {a : Option Addr} {c : Nat} {rs : List Rec} (hR : Srd S 5 recC a rs) (hn : (rs.map Rec.key).Nodup) (hl : rs.length ≤ 10000) :
   Ct Tryz.prog 40 [quV x lim z, .slice a rs.length c] [S] (fun v hs => ∃ a' c' out, v = .slice a' out.length c' ∧ FindIs d x lim z rs out ∧ hs = [S, rsA a' c' out]) := by
 refine Cti Tryz.func40 (by kernel_rfl) 42 Tryz.ntmps40 rfl rfl fun w0 R => ?_
 refine Gs.slAddr (hR.h (by repeat constructor)) fun ab ao ha => ?_
 refine Gsr (La rfl (ac_box rfl rfl) ?_)
 rintro _ _ ⟨qb, rfl, rfl⟩
 refine Las rfl rfl (Lnt (Gs.seq (Gsr (Lr rfl (rd_lda ag_34 rfl (Rdc.cl 10 (by repeat constructor) rfl) rfl) ?_))))
 refine La rfl (asC (smay_spec hT hA hF hz hd lim z)) ?_
 rintro _ _ ⟨_, ⟨rfl, rfl⟩, rfl⟩
 refine Lq rfl (pu_not rfl) (Lnt (Gs.cond rfl (fun hc0 => ?_) (fun hc0 => ?_)))
 ·
  have hno : mayQ d x lim z = false := not_t hc0
  refine Gs.slNil 32 5 recC (Gsr (Las rfl rfl (Lnt (Gs.ret (Gr ?_)))))
  exact Gs.fin1 Tryz.results40 rfl _ (⟨none, 0, [], rfl, ⟨[], ⟨fun h => absurd h (by rw [hno]; decide), fun _ => rfl⟩, by simp⟩, rfl⟩) (by repeat constructor)
 have hyes : mayQ d x lim z = true := not_f hc0
 have hlm : 1 ≤ lim ∧ lim ≤ 50 := by
   unfold mayQ okQ at hyes
   simp only [Bool.and_eq_true, decide_eq_true_eq] at hyes
   exact hyes.2.1
 refine Gs.skip (Gn (Gsr (Las rfl rfl (Lnil (Gs.slNil 32 5 recC (Gn (Gs.seq (Gsr (Lmv rfl rfl (Lq rfl (pu_len Tryz.underlying41 rfl) (Lmv rfl rfl ?_)))))))))))
 refine Lnt (Gs.block (Gs.loop1 (fun s : Nat × (Option Addr × Nat) × List Rec => s.1 ≤ rs.length ∧ s.2.2 = (rs.take s.1).filter (hitB d x z)) (fun s => [(2, ptr qb), (5, .slice s.2.1.1 s.2.2.length s.2.1.2), (11, .slice a rs.length c), (12, int rs.length), (13, int s.1)]) (fun s => [cl qb 34 (quC x lim z), S, rsA s.2.1.1 s.2.1.2 s.2.2] ++ R) (fun s => rs.length - s.1) (0, (none, 0), []) (⟨Nat.zero_le _, rfl⟩) (by repeat constructor) (by repeat constructor) (fun s hs => ?_)))
 obtain ⟨i, ⟨oa, oc⟩, O⟩ := s
 obtain ⟨hi, hO⟩ := hs
 dsimp only at hi hO ⊢
 have hOl : O.length ≤ i := by rw [hO]; have := List.length_filter_le (hitB d x z) (rs.take i); rw [List.length_take] at this; omega
 refine Gsr (Lq rfl (pu_lt rfl rfl) (Lnt (Gs.seq (Gs.cond rfl (fun hc1 => ?_) (fun hc1 => ?_)))))
 ·
  have hlt : i < rs.length := by have := of_decide_eq_true hc1; omega
  obtain ⟨r, hr⟩ := some_at hlt
  obtain rfl := ha (by rintro rfl; simp at hlt)
  have hsn := filt_snoc (f := hitB d x z) hr
  refine Gs.skip (Gn (Gs.seq (Gs.block (Gsr (Lq rfl (pu_ia se_41 rfl rfl (by omega) (by omega)) (Lr rfl (rd_lda ag_32 rfl (Rdc.el0 (hR.h (by repeat constructor)) hr rfl rfl) rfl) ?_))))))
  refine La rfl (ac_alloc zv_32 rfl) ?_
  rintro _ _ ⟨rb, rfl, rfl⟩
  refine Lac0 rfl trivial (ac_st sz_32 rfl rfl (by repeat constructor) rfl rfl rfl rfl) ?_
  rintro _ _ rfl
  refine Lnt (Gsr (Lr rfl (rd_lda ag_32 rfl (Rdc.cl 5 (by repeat constructor) rfl) rfl) ?_))
  refine Lq rfl (pu_fa fa_34_2 rfl) (Lr rfl (rd_lda ag_32 rfl (Rdc.cl 5 (by repeat constructor) rfl) rfl) ?_)
  refine La rfl (asC (early_spec r z)) ?_
  rintro _ _ ⟨_, ⟨rfl, rfl⟩, rfl⟩
  refine Lq rfl (pu_not rfl) (LpuB rfl rfl trivial (pu_move rfl) (fun hg5 => ?_) (fun hg5 => ?_))
  ·
   have e5 : (!earlyB r z) = true := hg5
   refine Lpu rfl rfl ⟨_, rfl, rfl⟩ (pu_fa fa_34_0 rfl) (Lrd rfl rfl ⟨_, rfl, rfl⟩ (rd_lda ag_26 rfl (Rdc.cl 4 (by repeat constructor) rfl) rfl) ?_)
   refine Lrd rfl rfl ⟨_, rfl, rfl⟩ (rd_lda ag_32 rfl (Rdc.cl 5 (by repeat constructor) rfl) rfl) ?_
   refine Lac rfl rfl ⟨_, rfl, rfl⟩ (asC (HoldsD_spec hT.u hA hF hz hd r)) ?_
   rintro _ _ ⟨_, ⟨rfl, rfl⟩, rfl⟩
   refine Lpk rfl rfl rfl (Lnt (Gs.cond rfl (fun hc2 => ?_) (fun hc2 => ?_)))
   ·
    have hyes2 : (rs.take (i + 1)).filter (hitB d x z) = O ++ [r] := by rw [hsn, hO, if_pos (by unfold hitB; rw [e5]; exact hc2)]
    refine Gs.reg (Lmv rfl rfl (Lr rfl (rd_lda ag_32 rfl (Rdc.cl 5 (by repeat constructor) rfl) rfl) ?_))
    refine La rfl (ac_lit encC_32 ([r]) et_41 ek_32 rfl (by repeat constructor) rfl rfl (by decide)) ?_
    rintro _ _ ⟨a30, rfl, rfl⟩
    refine La rfl (ac_append (xs := O) (ys := [r]) et_41 ek_32 rfl rfl (by repeat constructor) (SrcH.sl Tryz.underlying41 ek_32 (SlH.own (by repeat constructor))) (by first | omega | (simp; omega)) (by first | omega | (simp; omega))) ?_
    rintro _ _ ⟨a31, c31, rfl, rfl⟩
    refine Las rfl rfl (Lnil (Gs.blk_n (Gn (Gs.reg (Lq rfl (by first | exact pu_addI rfl rfl rfl (by omega) (by omega) | exact pu_add rfl rfl) ?_)))))
    refine Lmv rfl rfl (Lnt ?_)
    first | exact Ag (i + 1, (a31, c31), O ++ [r]) ⟨hlt, hyes2.symm⟩ (by show rs.length - (i + 1) < rs.length - i; omega) | exact Ag (i + 1, (oa, oc), O) ⟨hlt, hno.symm⟩ (by show rs.length - (i + 1) < rs.length - i; omega)
   have hno : (rs.take (i + 1)).filter (hitB d x z) = O := by rw [hsn, hO, if_neg (by unfold hitB; rw [e5, hc2]; decide), List.append_nil]
   refine Gs.skip (Gs.blk_n (Gn (Gs.reg (Lq rfl (by first | exact pu_addI rfl rfl rfl (by omega) (by omega) | exact pu_add rfl rfl) ?_))))
   refine Lmv rfl rfl (Lnt ?_)
   first | exact Ag (i + 1, (a31, c31), O ++ [r]) ⟨hlt, hyes2.symm⟩ (by show rs.length - (i + 1) < rs.length - i; omega) | exact Ag (i + 1, (oa, oc), O) ⟨hlt, hno.symm⟩ (by show rs.length - (i + 1) < rs.length - i; omega)
  have e5 : (!earlyB r z) = false := hg5
  have hno : (rs.take (i + 1)).filter (hitB d x z) = O := by rw [hsn, hO, if_neg (by unfold hitB; rw [e5, Bool.false_and]; exact Bool.false_ne_true), List.append_nil]
  refine Lof rfl (Lof rfl (Lof rfl (Lof rfl (Lpk rfl rfl rfl (Lnt (Gs.cond_f rfl (Gs.skip (Gs.blk_n (Gn (Gs.reg (Lq rfl (by first | exact pu_addI rfl rfl rfl (by omega) (by omega) | exact pu_add rfl rfl) ?_)))))))))))
  refine Lmv rfl rfl (Lnt ?_)
  first | exact Ag (i + 1, (a31, c31), O ++ [r]) ⟨hlt, hyes2.symm⟩ (by show rs.length - (i + 1) < rs.length - i; omega) | exact Ag (i + 1, (oa, oc), O) ⟨hlt, hno.symm⟩ (by show rs.length - (i + 1) < rs.length - i; omega)
 have hge : i = rs.length := by have := of_decide_eq_false hc1; omega
 rw [hge, List.take_length] at hO
 have hOn : Apart lessR O := by rw [hO]; exact apart_keys (filt_keys hn _)
 refine Gs.exit (Gx (Gx (Gs.blk_hit (Gn (Gsr (Lmv rfl rfl (La rfl (asC (rsort_spec (S := rsA oa oc O) (a := oa) (c := oc) Srd.own hOn (by omega))) ?_)))))))
 rintro _ _ ⟨_, ⟨na, nc, ys, rfl, hys, rfl⟩, rfl⟩
 refine Las rfl rfl (Lnil (Gs.slNS (E := 32) (sz := 5) (enc := recC) (a := na) (c := nc) (xs := ys) (by repeat constructor) fun hns => ?_))
 have hnl := hns.1
 refine Gn (Gsr (Lmv rfl rfl (Lmv rfl rfl (Lq rfl (pu_len Tryz.underlying41 rfl) (Lq rfl (pu_fa fa_34_1 rfl) (Lr rfl (rd_ld na_3 rfl (Rdc.cl1 (by repeat constructor) rfl)) ?_))))))
 refine Lq rfl (pu_min rfl rfl) (Lq rfl (pu_sliceH et_41 rfl rfl (by omega) (by omega)) (Las rfl rfl (Lnil ?_)))
 rw [hns.2, show (min (ys.length : Int) lim).toNat = (ys.take lim.toNat).length by rw [List.length_take]; omega]
 refine Gs.takes (As := [rsA na nc ys]) (by repeat constructor) (Gs.ent (sl_take lim.toNat) ?_)
 refine Gn (Gs.ret ?_)
 exact Gs.fin1 Tryz.results40 rfl _ (⟨na, nc, ys.take lim.toNat, rfl, ⟨ys, ⟨fun _ => by rw [← hO]; exact hys, fun h => absurd h (by rw [hyes]; decide)⟩, rfl⟩, rfl⟩) (by repeat constructor)
theorem ofR_mem {rs : List Rec} {ks : List Key} (hn : (rs.map Rec.key).Nodup) (hk : ∀ k ∈ ks, k ∈ rs.map Rec.key) (r : Rec) : r ∈ ofR rs ks ↔ r ∈ rs ∧ r.key ∈ ks := by
 unfold ofR
 rw [List.mem_map]
 constructor
 · rintro ⟨k, hkm, rfl⟩
   obtain ⟨r, hr, rfl⟩ := List.mem_map.1 (hk k hkm)
   rw [lookR_at hn hr]; exact ⟨hr, hkm⟩
 · rintro ⟨hr, hkm⟩
   exact ⟨r.key, hkm, by rw [lookR_at hn hr]; rfl⟩
theorem ofR_keys {rs : List Rec} {ks : List Key} (hn : (rs.map Rec.key).Nodup) (hk : ∀ k ∈ ks, k ∈ rs.map Rec.key) : (ofR rs ks).map Rec.key = ks := by
 unfold ofR
 rw [List.map_map]
 conv => rhs; rw [← List.map_id ks]
 refine List.map_congr_left fun k hkm => ?_
 obtain ⟨r, hr, rfl⟩ := List.mem_map.1 (hk k hkm)
 show ((lookR rs r.key).getD Rec.zero).key = r.key
 rw [lookR_at hn hr]; rfl
theorem nodup_of_keys {l : List Rec} (h : (l.map Rec.key).Nodup) : l.Nodup := (List.pairwise_map.1 h).imp fun {a b} hab e => hab (by rw [e])
theorem KsQ.sub {rs : List Rec} {d : Nat} {y : AskV} {ks : List Key} (h : KsQ rs d y ks) : (∀ k ∈ ks, k ∈ rs.map Rec.key) ∧ ks.Nodup := by
 cases hm : mayA d y with
 | true =>
   have hk := h.1 hm
   exact ⟨fun k hkm => by obtain ⟨r, hr, e, -⟩ := (hk.2 k).1 hkm; exact List.mem_map.2 ⟨r, hr, e⟩, hk.nodup⟩
 | false => rw [h.2 hm]; exact ⟨fun k h => (by cases h), List.nodup_nil⟩
theorem KsQ.len {rs : List Rec} {d : Nat} {y : AskV} {ks : List Key} (h : KsQ rs d y ks) : ks.length ≤ rs.length := by
 have := nodup_sub h.sub.2 h.sub.1
 simpa using this
theorem KsQ.hits {rs : List Rec} {d : Nat} {y : AskV} {ks : List Key} (hn : (rs.map Rec.key).Nodup) (h : KsQ rs d y ks) (z : Rec) : List.Perm ((ofR rs ks).filter (hitB d y z)) (rs.filter (hitB d y z)) := by
 obtain ⟨h1, h2⟩ := h.sub
 have hk := ofR_keys hn h1
 have n1 : ((ofR rs ks).filter (hitB d y z)).Nodup := nodup_of_keys (filt_keys (by rw [hk]; exact h2) _)
 have n2 : (rs.filter (hitB d y z)).Nodup := nodup_of_keys (filt_keys hn _)
 rw [List.perm_ext_iff_of_nodup n1 n2]
 intro r
 rw [List.mem_filter, List.mem_filter, ofR_mem hn h1]
 constructor
 · rintro ⟨⟨h3, -⟩, h4⟩; exact ⟨h3, h4⟩
 · rintro ⟨h3, h4⟩
   refine ⟨⟨h3, ?_⟩, h4⟩
   unfold hitB HoldsB at h4
   simp only [Bool.and_eq_true] at h4
   exact ((h.1 h4.2.1).at hn h3).2 h4.2.2.2
theorem FindIs.all {d : Nat} {x : AskV} {lim : Int} {z : Rec} {rs out : List Rec} {ks : List Key} (hn : (rs.map Rec.key).Nodup) (hk : KsQ rs d x ks) (h : FindIs d x lim z (ofR rs ks) out) : FindIs d x lim z rs out := by
 obtain ⟨ys, hy, rfl⟩ := h
 exact ⟨ys, ⟨fun hm => ⟨(hy.1 hm).1.trans (hk.hits hn z), (hy.1 hm).2⟩, hy.2⟩, rfl⟩
set_option maxHeartbeats 1000000 in
theorem sfind_spec (x : Nat) (rs : List Rec) (hr : rs.length ≤ 800) {S : HProp} (hT : TabW S) {d : Nat} {y : AskV} (hA : ARd S y) (hF : FewA d y) (hz : sizeA d y ≤ 1000) (hd : d ≤ 1000) (lim : Int) (z : Rec) :
   Ct Tryz.prog 18 [ptr x, quV y lim z] [shA x rs, S] (fun v hs => ∃ a c out, v = .slice a out.length c ∧ FindIs d y lim z rs out ∧ hs = [shA x rs, S, rsA a c out]) := by
 refine Cti Tryz.func18 (by kernel_rfl) 15 Tryz.ntmps18 rfl rfl fun w0 R => ?_
 refine Gs.shKeys fun hn => ?_
 refine Gsr (La rfl (ac_box rfl rfl) ?_)
 rintro _ _ ⟨qb, rfl, rfl⟩
 refine Las rfl rfl (Lnt (Gs.seq (Gsr (Lmv rfl rfl (Lq rfl (pu_eqN Tryz.underlying38 rfl rfl) (Lnt (Gs.cond_ff rfl rfl (Gs.skip (Gn (Gs.seq (Gs.regD mixed (by kernel_rfl) ?_)))))))))))
 refine Rr 0 rfl (by kernel_rfl) (rd_lda ag_34 rfl (Rdc.cl 10 (by repeat constructor) rfl) rfl) ?_
 refine Rmv 1 rfl (by kernel_rfl) rfl (Rmv 2 rfl (by kernel_rfl) rfl (Rq 3 rfl (by kernel_rfl) (pu_fa fa_34_0 rfl) (Rr 4 rfl (by kernel_rfl) (rd_lda ag_26 rfl (Rdc.cl 4 (by repeat constructor) rfl) rfl) ?_)))
 refine Rg.one (by kernel_rfl) (Stp.acR 5 [0] rfl rfl (by kernel_rfl) trivial (asC (sKeys_spec x rs hr hT.u hA hF hz hd)) (by rintro _ _ ⟨_, ⟨ka, kc, ks, rfl, hK, rfl⟩, rfl⟩; exact (Reads.cons rfl rfl rfl trivial rfl (rd_lda ag_34 rfl (Rdc.cl 10 (by repeat constructor) rfl) rfl) Reads.nil)) ?_)
 rintro _ _ ⟨_, ⟨ka, kc, ks, rfl, hK, rfl⟩, rfl⟩
 have hkl := hK.len
 have hks := hK.sub
 have hok := ofR_keys hn hks.1
 have hol : (ofR rs ks).length = ks.length := by unfold ofR; rw [List.length_map]
 refine Rg.one (by kernel_rfl) (Stp.acR 6 [0] rfl rfl (by kernel_rfl) trivial (asC (sof_spec x rs (U := sl 28 2 keyC ka kc ks) (a := ka) (c := kc) Srd.own (by omega))) (by rintro _ _ ⟨_, ⟨oa, oc, rfl, rfl⟩, rfl⟩; exact (Reads.cons rfl rfl rfl trivial rfl (rd_lda ag_34 rfl (Rdc.cl 10 (by repeat constructor) rfl) rfl) Reads.nil)) ?_)
 rintro _ _ ⟨_, ⟨oa, oc, rfl, rfl⟩, rfl⟩
 refine Rg.one (by kernel_rfl) (Stp.ac 7 rfl rfl (by kernel_rfl) trivial (asC (Ct.two (scanFind_spec (S := two S (rsA oa oc (ofR rs ks))) (hT.inn Inn.two1) hA.two1 hF hz hd lim z (a := oa) (c := oc) (rs := ofR rs ks) (Srd.two2 Srd.own) (by rw [hok]; exact hks.2) (by omega)) (by rintro _ _ ⟨_, _, _, _, _, rfl⟩; exact ⟨_, rfl⟩)))  ?_)
 rintro _ _ ⟨_, ⟨_, ⟨za, zc, out, rfl, hO, ⟨⟩⟩, rfl⟩, rfl⟩
 refine Rq 8 rfl (by kernel_rfl) (pu_assign rfl) (Rg.end (by kernel_rfl) (Gn (Gs.ret ?_)))
 exact Gs.fin1 Tryz.results18 rfl _ (⟨za, zc, out, rfl, FindIs.all hn hK hO, rfl⟩) (by repeat constructor)
end Go.Proofs.YtklgiidfompdpaaGreatDoor
namespace Go.Proofs.YtklgiidfompdpaaGreatDoor
open Go Go.Sl Go.Gv Go.Kv Go.Po Go.Ix Go.Qu Go.Shelf Go.Stb
set_option maxRecDepth 100000
end Go.Proofs.YtklgiidfompdpaaGreatDoor
