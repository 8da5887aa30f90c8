/- Walks: index.Same. -/
import Derived.Test.YtmbikfojljnnkaaGreatDoorIxF
namespace Go.Ix
open Go Go.Sl Go.Gv Go.Kv Go.Po Go.Bst
/-- Do two maps of lists tell the same? -/
def mapsB (P Q : PL) : Bool := decide (P.length = Q.length) && P.all fun p => decide (mget Q p.1 = some p.2)
def sameB (s t : PL × PW) : Bool := decide (sortK (mkeys s.2) = sortK (mkeys t.2)) && mapsB s.1 t.1
end Go.Ix
namespace Go.Sl
open Go Go.Kv
section
variable {P : Program} {n : Nat} {w0 : World} {env : Env} {H : List HProp} {κ ν : Type}
theorem ac_nextNil {d : Option Tmp} {x : Operand} {ty : TypeId} {pos : String} {af : Array Edge} {g : Option (Nat × Bool)} {enck : κ → Value} {encv : ν → Value} {r b : Nat} {m : List (κ × ν)} {last : Option (κ × ν)} {H' : List HProp}
    (hx : ev env x = some (.pointer (some ⟨r, 0, none⟩))) (t : Take (itr enck encv r b m [] last) H H') :
    Ac P ⟨d, .next x false, ty, pos, af, g⟩ w0 env H (fun v H'' => v = .tuple #[.bool false] ∧ H'' = itr enck encv r b m [] last :: H') :=
  (ac_next hx t).mono fun v H'' h => by
    rcases h with ⟨-, h1, h2⟩ | ⟨i, p, hp, -⟩
    · exact ⟨h1, h2⟩
    · simp at hp
end
end Go.Sl
namespace Go.Proofs.YtmbikfojljnnkaaGreatDoor
open Go Go.Sl Go.Gv Go.Kv Go.Po Go.Ix Go.Bst
set_option maxRecDepth 100000
theorem prefixN_spec (q : ByteArray) : Ct Tryz.prog 16 [.pointer none, .string q] [] (fun v hs => v = .slice none 0 0 ∧ hs = []) := by
  refine Ct.intro Tryz.func16 rfl (by kernel_rfl) 65 Tryz.ntmps16 (Nat.le_of_ble_eq_true rfl) fun w0 R => ?_
  refine Gs.seq ?_
  refine Gs.reg ?_
  refine Go.Sl.L.pu rfl rfl trivial (pu_assign rfl) ?_
  refine Go.Sl.L.nil ?_
  refine Gs.then_n ?_
  refine Gs.seq ?_
  refine Gs.reg ?_
  refine Go.Sl.L.ac rfl rfl trivial (ac_mkmap enck_31 encv_64) ?_
  rintro _ _ ⟨m, rfl, rfl⟩
  refine Go.Sl.L.pu rfl rfl trivial (pu_assign rfl) ?_
  refine Go.Sl.L.nil ?_
  refine Gs.then_n ?_
  refine Gs.seq ?_
  refine Gs.seq ?_
  refine Gs.reg ?_
  refine Go.Sl.L.pu rfl rfl trivial (pu_move rfl) ?_
  refine Go.Sl.L.ac rfl rfl trivial (as_call (wordsN_spec) (by repeat constructor) (by repeat constructor)) ?_
  rintro _ _ ⟨_, ⟨rfl, rfl⟩, rfl⟩
  refine Go.Sl.L.pu rfl rfl trivial (pu_len Tryz.underlying58 rfl) ?_
  refine Go.Sl.L.pu rfl rfl trivial (pu_move rfl) ?_
  refine Go.Sl.L.nil ?_
  refine Gs.then_n ?_
  refine Gs.block ?_
  refine Gs.loop1 (fun _ : Unit => True) (fun _ => [(5, .map (some m)), (15, .slice none 0 0), (16, int 0), (17, int 0)]) (fun _ => [mp keyV slV m ([] : List (Key × SlV Int))] ++ R) (fun _ => 0) () (trivial) (by repeat constructor) (by repeat constructor) (fun s hs => ?_)
  refine Gs.seq ?_
  refine Gs.reg ?_
  refine Go.Sl.L.pu rfl rfl trivial (pu_lt rfl rfl) ?_
  refine Go.Sl.L.nil ?_
  refine Gs.then_n ?_
  refine Gs.seq ?_
  refine Gs.cond_ff rfl rfl ?_
  refine Gs.exit ?_
  refine Gs.then_x ?_
  refine Gs.then_x ?_
  refine Gs.blk_hit ?_
  refine Gs.then_n ?_
  refine Gs.seq ?_
  refine Gs.reg ?_
  refine Go.Sl.L.pu rfl rfl trivial (pu_assign rfl) ?_
  refine Go.Sl.L.nil ?_
  refine Gs.then_n ?_
  refine Gs.seq ?_
  refine Gs.seq ?_
  refine Gs.slNil 66 3 postC ?_
  refine Gs.reg ?_
  refine Go.Sl.L.pu rfl rfl trivial (pu_move rfl) ?_
  refine Go.Sl.L.ac rfl rfl trivial (ac_range (enck := keyV) (encv := (slV : SlV Int → Value)) Tryz.underlying83 rfl (by repeat constructor)) ?_
  rintro _ _ ⟨ri, rfl, rfl⟩
  refine Go.Sl.L.nil ?_
  refine Gs.then_n ?_
  refine Gs.block ?_
  refine Gs.loop1 (fun _ : Unit => True) (fun _ => [(10, .slice none 0 0), (48, ptr ri)]) (fun _ => [itr keyV (slV : SlV Int → Value) ri m [] [] none, sl 66 3 postC none 0 []] ++ R) (fun _ => 0) () (trivial) (by repeat constructor) (by repeat constructor) (fun s hs => ?_)
  refine Gs.seq ?_
  refine Gs.reg ?_
  refine Go.Sl.L.ac rfl rfl trivial (ac_nextNil rfl (by repeat constructor)) ?_
  rintro _ _ ⟨rfl, rfl⟩
  refine Go.Sl.L.pu rfl rfl trivial (pu_extract rfl rfl) ?_
  refine Go.Sl.L.nil ?_
  refine Gs.then_n ?_
  refine Gs.seq ?_
  refine Gs.cond_f rfl ?_
  refine Gs.exit ?_
  refine Gs.then_x ?_
  refine Gs.then_x ?_
  refine Gs.blk_hit ?_
  refine Gs.then_n ?_
  refine Gs.seq ?_
  refine Gs.reg ?_
  refine Go.Sl.L.pu rfl rfl trivial (pu_move rfl) ?_
  refine Go.Sl.L.ac rfl rfl trivial (as_call (sortPI_spec none 0 [] (by decide)) (by repeat constructor) (by repeat constructor)) ?_
  rintro _ _ ⟨_, ⟨rfl, ys, hys, hpw, rfl⟩, rfl⟩
  refine Go.Sl.L.nil ?_
  refine Gs.then_n ?_
  refine Gs.seq ?_
  refine Gs.reg ?_
  refine Go.Sl.L.pu rfl rfl trivial (pu_move rfl) ?_
  refine Go.Sl.L.pu rfl rfl trivial (pu_assign rfl) ?_
  refine Go.Sl.L.nil ?_
  refine Gs.then_n ?_
  refine Gs.ret ?_
  exact Gs.fin1 Tryz.results16 rfl _ (⟨rfl, rfl⟩) (by repeat constructor)
theorem equalI_spec {S : HProp} {a b : Option Addr} {c d : Nat} {xs ys : List Int} (hS : Srd S 1 intC a xs) (hU : Srd S 1 intC b ys) (hl : xs.length ≤ 1000000) :
    Ct Tryz.prog 54 [.slice a xs.length c, .slice b ys.length d] [S] (fun v hs => v = .bool (decide (xs = ys)) ∧ hs = [S]) := by
  refine Ct.intro Tryz.func54 rfl (by kernel_rfl) 26 Tryz.ntmps54 (Nat.le_of_ble_eq_true rfl) fun w0 R => ?_
  refine Gs.slAddr (hS.h (by repeat constructor)) fun ab ao ha => ?_
  refine Gs.slAddr (hU.h (by repeat constructor)) fun ub uo hu => ?_
  refine Gs.seq ?_
  refine Gs.reg ?_
  refine Go.Sl.L.pu rfl rfl trivial (pu_assign rfl) ?_
  refine Go.Sl.L.nil ?_
  refine Gs.then_n ?_
  refine Gs.seq ?_
  refine Gs.seq ?_
  refine Gs.reg ?_
  refine Go.Sl.L.pu rfl rfl trivial (pu_move rfl) ?_
  refine Go.Sl.L.pu rfl rfl trivial (pu_len Tryz.underlying64 rfl) ?_
  refine Go.Sl.L.pu rfl rfl trivial (pu_move rfl) ?_
  refine Go.Sl.L.pu rfl rfl trivial (pu_len Tryz.underlying64 rfl) ?_
  refine Go.Sl.L.pu rfl rfl trivial (pu_ne rfl rfl) ?_
  refine Go.Sl.L.nil ?_
  refine Gs.then_n ?_
  refine Gs.cond rfl (fun hc0 => ?_) (fun hc0 => ?_)
  · skip
    have hne : ¬ xs = ys := fun e => by have := of_decide_eq_true hc0; rw [e] at this; exact this rfl
    refine Gs.seq ?_
    refine Gs.reg ?_
    refine Go.Sl.L.pu rfl rfl trivial (pu_assign rfl) ?_
    refine Go.Sl.L.nil ?_
    refine Gs.then_n ?_
    refine Gs.ret ?_
    refine Gs.then_r ?_
    exact Gs.fin1 Tryz.results54 rfl _ (⟨by rw [decide_eq_false hne], rfl⟩) (by repeat constructor)
  · skip
    have hle : xs.length = ys.length := by have := of_decide_eq_false hc0; omega
    refine Gs.skip ?_
    refine Gs.then_n ?_
    refine Gs.seq ?_
    refine Gs.seq ?_
    refine Gs.reg ?_
    refine Go.Sl.L.pu rfl rfl trivial (pu_move rfl) ?_
    refine Go.Sl.L.pu rfl rfl trivial (pu_len Tryz.underlying64 rfl) ?_
    refine Go.Sl.L.pu rfl rfl trivial (pu_move rfl) ?_
    refine Go.Sl.L.nil ?_
    refine Gs.then_n ?_
    refine Gs.block ?_
    refine Gs.loop1 (fun i : Nat => i ≤ xs.length ∧ xs.take i = ys.take i) (fun i => [(0, .slice a xs.length c), (1, .slice b ys.length d), (12, int xs.length), (13, int i)]) (fun i => [S] ++ R) (fun i => xs.length - i) 0 (⟨Nat.zero_le _, rfl⟩) (by repeat constructor) (by repeat constructor) (fun i ⟨hi, ht⟩ => ?_)
    refine Gs.seq ?_
    refine Gs.reg ?_
    refine Go.Sl.L.pu rfl rfl trivial (pu_lt rfl rfl) ?_
    refine Go.Sl.L.nil ?_
    refine Gs.then_n ?_
    refine Gs.seq ?_
    refine Gs.cond rfl (fun hc1 => ?_) (fun hc1 => ?_)
    · skip
      have hlt : i < xs.length := by have := of_decide_eq_true hc1; omega
      obtain ⟨x, hx⟩ : ∃ x, xs[i]? = some x := ⟨xs[i], by simp [hlt]⟩
      obtain ⟨y, hy⟩ : ∃ x, ys[i]? = some x := ⟨ys[i]'(by omega), by simp [← hle, hlt]⟩
      obtain rfl := ha (by rintro rfl; simp at hlt)
      obtain rfl := hu (by rintro rfl; simp at hy)
      refine Gs.skip ?_
      refine Gs.then_n ?_
      refine Gs.seq ?_
      refine Gs.block ?_
      refine Gs.seq ?_
      refine Gs.reg ?_
      refine Go.Sl.L.pu rfl rfl trivial (pu_move rfl) ?_
      refine Go.Sl.L.pu rfl rfl trivial (pu_assign rfl) ?_
      refine Go.Sl.L.nil ?_
      refine Gs.then_n ?_
      refine Gs.seq ?_
      refine Gs.regD mixed (by kernel_rfl) ?_
      refine Rg.pu 0 rfl rfl (by kernel_rfl) trivial (pu_move rfl) ?_
      refine Rg.pu 1 rfl rfl (by kernel_rfl) trivial (pu_move rfl) ?_
      refine Rg.pu 2 rfl rfl (by kernel_rfl) trivial (pu_ia se_64 rfl rfl (by omega) (by omega)) ?_
      refine Rg.rd 3 rfl rfl (by kernel_rfl) trivial (rd_ld na_3 rfl (Rdc.el0 (hS.h (by repeat constructor)) hx rfl rfl)) ?_
      refine Rg.pu 4 rfl rfl (by kernel_rfl) trivial (pu_move rfl) ?_
      refine Rg.pu 5 rfl rfl (by kernel_rfl) trivial (pu_move rfl) ?_
      refine Rg.pu 6 rfl rfl (by kernel_rfl) trivial (pu_ia se_64 rfl rfl (by omega) (by omega)) ?_
      refine Rg.rd 7 rfl rfl (by kernel_rfl) trivial (rd_ld na_3 rfl (Rdc.el0 (hU.h (by repeat constructor)) hy rfl rfl)) ?_
      refine Rg.pu 8 rfl rfl (by kernel_rfl) trivial (pu_ne rfl rfl) ?_
      refine Rg.end (by kernel_rfl) ?_
      refine Gs.then_n ?_
      refine Gs.cond rfl (fun hc2 => ?_) (fun hc2 => ?_)
      · skip
        have hne : ¬ xs = ys := fun e => by have := of_decide_eq_true hc2; rw [e, hy] at hx; exact this (Option.some.inj hx).symm
        refine Gs.seq ?_
        refine Gs.reg ?_
        refine Go.Sl.L.pu rfl rfl trivial (pu_assign rfl) ?_
        refine Go.Sl.L.nil ?_
        refine Gs.then_n ?_
        refine Gs.ret ?_
        refine Gs.blk_r ?_
        refine Gs.then_r ?_
        refine Gs.then_r ?_
        refine Gs.blk_r ?_
        refine Gs.then_r ?_
        exact Gs.fin1 Tryz.results54 rfl _ (⟨by rw [decide_eq_false hne], rfl⟩) (by repeat constructor)
      · skip
        have hxy : x = y := by have := of_decide_eq_false hc2; omega
        refine Gs.skip ?_
        refine Gs.blk_n ?_
        refine Gs.then_n ?_
        refine Gs.reg ?_
        refine Go.Sl.L.pu rfl rfl trivial (by first | exact pu_addI rfl rfl rfl (by omega) (by omega) | exact pu_add rfl rfl) ?_
        refine Go.Sl.L.pu rfl rfl trivial (pu_move rfl) ?_
        refine Go.Sl.L.nil ?_
        refine Gs.then_n ?_
        exact Gs.again1 (i + 1) ⟨by omega, by rw [List.take_add_one, List.take_add_one, ht, hx, hy, hxy]⟩ (by omega) (by repeat constructor) (by repeat constructor)
    · skip
      have hge : i = xs.length := by have := of_decide_eq_false hc1; omega
      have heq : xs = ys := by rw [hge, List.take_length, hle, List.take_length] at ht; exact ht
      refine Gs.exit ?_
      refine Gs.then_x ?_
      refine Gs.then_x ?_
      refine Gs.blk_hit ?_
      refine Gs.then_n ?_
      refine Gs.seq ?_
      refine Gs.reg ?_
      refine Go.Sl.L.pu rfl rfl trivial (pu_assign rfl) ?_
      refine Go.Sl.L.nil ?_
      refine Gs.then_n ?_
      refine Gs.ret ?_
      exact Gs.fin1 Tryz.results54 rfl _ (⟨by rw [decide_eq_true heq], rfl⟩) (by repeat constructor)
theorem equalK_spec {S : HProp} {a b : Option Addr} {c d : Nat} {xs ys : List Key} (hS : Srd S 2 keyC a xs) (hU : Srd S 2 keyC b ys) (hl : xs.length ≤ 1000000) :
    Ct Tryz.prog 57 [.slice a xs.length c, .slice b ys.length d] [S] (fun v hs => v = .bool (decide (xs = ys)) ∧ hs = [S]) := by
  refine Ct.intro Tryz.func57 rfl (by kernel_rfl) 26 Tryz.ntmps57 (Nat.le_of_ble_eq_true rfl) fun w0 R => ?_
  refine Gs.slAddr (hS.h (by repeat constructor)) fun ab ao ha => ?_
  refine Gs.slAddr (hU.h (by repeat constructor)) fun ub uo hu => ?_
  refine Gs.seq ?_
  refine Gs.reg ?_
  refine Go.Sl.L.pu rfl rfl trivial (pu_assign rfl) ?_
  refine Go.Sl.L.nil ?_
  refine Gs.then_n ?_
  refine Gs.seq ?_
  refine Gs.seq ?_
  refine Gs.reg ?_
  refine Go.Sl.L.pu rfl rfl trivial (pu_move rfl) ?_
  refine Go.Sl.L.pu rfl rfl trivial (pu_len Tryz.underlying47 rfl) ?_
  refine Go.Sl.L.pu rfl rfl trivial (pu_move rfl) ?_
  refine Go.Sl.L.pu rfl rfl trivial (pu_len Tryz.underlying47 rfl) ?_
  refine Go.Sl.L.pu rfl rfl trivial (pu_ne rfl rfl) ?_
  refine Go.Sl.L.nil ?_
  refine Gs.then_n ?_
  refine Gs.cond rfl (fun hc0 => ?_) (fun hc0 => ?_)
  · skip
    have hne : ¬ xs = ys := fun e => by have := of_decide_eq_true hc0; rw [e] at this; exact this rfl
    refine Gs.seq ?_
    refine Gs.reg ?_
    refine Go.Sl.L.pu rfl rfl trivial (pu_assign rfl) ?_
    refine Go.Sl.L.nil ?_
    refine Gs.then_n ?_
    refine Gs.ret ?_
    refine Gs.then_r ?_
    exact Gs.fin1 Tryz.results57 rfl _ (⟨by rw [decide_eq_false hne], rfl⟩) (by repeat constructor)
  · skip
    have hle : xs.length = ys.length := by have := of_decide_eq_false hc0; omega
    refine Gs.skip ?_
    refine Gs.then_n ?_
    refine Gs.seq ?_
    refine Gs.seq ?_
    refine Gs.reg ?_
    refine Go.Sl.L.pu rfl rfl trivial (pu_move rfl) ?_
    refine Go.Sl.L.pu rfl rfl trivial (pu_len Tryz.underlying47 rfl) ?_
    refine Go.Sl.L.pu rfl rfl trivial (pu_move rfl) ?_
    refine Go.Sl.L.nil ?_
    refine Gs.then_n ?_
    refine Gs.block ?_
    refine Gs.loop1 (fun i : Nat => i ≤ xs.length ∧ xs.take i = ys.take i) (fun i => [(0, .slice a xs.length c), (1, .slice b ys.length d), (12, int xs.length), (13, int i)]) (fun i => [S] ++ R) (fun i => xs.length - i) 0 (⟨Nat.zero_le _, rfl⟩) (by repeat constructor) (by repeat constructor) (fun i ⟨hi, ht⟩ => ?_)
    refine Gs.seq ?_
    refine Gs.reg ?_
    refine Go.Sl.L.pu rfl rfl trivial (pu_lt rfl rfl) ?_
    refine Go.Sl.L.nil ?_
    refine Gs.then_n ?_
    refine Gs.seq ?_
    refine Gs.cond rfl (fun hc1 => ?_) (fun hc1 => ?_)
    · skip
      have hlt : i < xs.length := by have := of_decide_eq_true hc1; omega
      obtain ⟨x, hx⟩ : ∃ x, xs[i]? = some x := ⟨xs[i], by simp [hlt]⟩
      obtain ⟨y, hy⟩ : ∃ x, ys[i]? = some x := ⟨ys[i]'(by omega), by simp [← hle, hlt]⟩
      obtain rfl := ha (by rintro rfl; simp at hlt)
      obtain rfl := hu (by rintro rfl; simp at hy)
      refine Gs.skip ?_
      refine Gs.then_n ?_
      refine Gs.seq ?_
      refine Gs.block ?_
      refine Gs.seq ?_
      refine Gs.reg ?_
      refine Go.Sl.L.pu rfl rfl trivial (pu_move rfl) ?_
      refine Go.Sl.L.pu rfl rfl trivial (pu_assign rfl) ?_
      refine Go.Sl.L.nil ?_
      refine Gs.then_n ?_
      refine Gs.seq ?_
      refine Gs.regD mixed (by kernel_rfl) ?_
      refine Rg.pu 0 rfl rfl (by kernel_rfl) trivial (pu_move rfl) ?_
      refine Rg.pu 1 rfl rfl (by kernel_rfl) trivial (pu_move rfl) ?_
      refine Rg.pu 2 rfl rfl (by kernel_rfl) trivial (pu_ia se_47 rfl rfl (by omega) (by omega)) ?_
      refine Rg.rd 3 rfl rfl (by kernel_rfl) trivial (rd_lda ag_31 rfl (Rdc.el0 (hS.h (by repeat constructor)) hx rfl rfl) rfl) ?_
      refine Rg.pu 4 rfl rfl (by kernel_rfl) trivial (pu_move rfl) ?_
      refine Rg.pu 5 rfl rfl (by kernel_rfl) trivial (pu_move rfl) ?_
      refine Rg.pu 6 rfl rfl (by kernel_rfl) trivial (pu_ia se_47 rfl rfl (by omega) (by omega)) ?_
      refine Rg.rd 7 rfl rfl (by kernel_rfl) trivial (rd_lda ag_31 rfl (Rdc.el0 (hU.h (by repeat constructor)) hy rfl rfl) rfl) ?_
      refine Rg.pu 8 rfl rfl (by kernel_rfl) trivial (pu_neT (a := x) (b := y) cmp_31 (by decide) Tryz.eqGuardType31 rfl rfl) ?_
      refine Rg.end (by kernel_rfl) ?_
      refine Gs.then_n ?_
      refine Gs.cond rfl (fun hc2 => ?_) (fun hc2 => ?_)
      · skip
        have hne : ¬ xs = ys := fun e => by have := of_decide_eq_true hc2; rw [e, hy] at hx; exact this (Option.some.inj hx).symm
        refine Gs.seq ?_
        refine Gs.reg ?_
        refine Go.Sl.L.pu rfl rfl trivial (pu_assign rfl) ?_
        refine Go.Sl.L.nil ?_
        refine Gs.then_n ?_
        refine Gs.ret ?_
        refine Gs.blk_r ?_
        refine Gs.then_r ?_
        refine Gs.then_r ?_
        refine Gs.blk_r ?_
        refine Gs.then_r ?_
        exact Gs.fin1 Tryz.results57 rfl _ (⟨by rw [decide_eq_false hne], rfl⟩) (by repeat constructor)
      · skip
        have hxy : x = y := Decidable.not_not.1 (of_decide_eq_false hc2)
        refine Gs.skip ?_
        refine Gs.blk_n ?_
        refine Gs.then_n ?_
        refine Gs.reg ?_
        refine Go.Sl.L.pu rfl rfl trivial (by first | exact pu_addI rfl rfl rfl (by omega) (by omega) | exact pu_add rfl rfl) ?_
        refine Go.Sl.L.pu rfl rfl trivial (pu_move rfl) ?_
        refine Go.Sl.L.nil ?_
        refine Gs.then_n ?_
        exact Gs.again1 (i + 1) ⟨by omega, by rw [List.take_add_one, List.take_add_one, ht, hx, hy, hxy]⟩ (by omega) (by repeat constructor) (by repeat constructor)
    · skip
      have hge : i = xs.length := by have := of_decide_eq_false hc1; omega
      have heq : xs = ys := by rw [hge, List.take_length, hle, List.take_length] at ht; exact ht
      refine Gs.exit ?_
      refine Gs.then_x ?_
      refine Gs.then_x ?_
      refine Gs.blk_hit ?_
      refine Gs.then_n ?_
      refine Gs.seq ?_
      refine Gs.reg ?_
      refine Go.Sl.L.pu rfl rfl trivial (pu_assign rfl) ?_
      refine Go.Sl.L.nil ?_
      refine Gs.then_n ?_
      refine Gs.ret ?_
      exact Gs.fin1 Tryz.results57 rfl _ (⟨by rw [decide_eq_true heq], rfl⟩) (by repeat constructor)
theorem same1_spec {S : HProp} {p q : PostV} (hp : Srd S 1 intC p.t.a p.t.xs ∧ p.t.xs.length ≤ 1000) (hq : Srd S 1 intC q.t.a q.t.xs ∧ q.t.xs.length ≤ 1000) :
    Ct Tryz.prog 53 ([] ++ [postV p, postV q] ++ []) [S] (fun v hs => v = .bool (decide (p.p = q.p)) ∧ hs = [S]) := by
  refine Ct.intro Tryz.func53 rfl (by kernel_rfl) 17 Tryz.ntmps53 (Nat.le_of_ble_eq_true rfl) fun w0 R => ?_
  refine Gs.seq ?_
  refine Gs.reg ?_
  refine Go.Sl.L.ac rfl rfl trivial (ac_box rfl rfl) ?_
  rintro _ _ ⟨pb, rfl, rfl⟩
  refine Go.Sl.L.ac rfl rfl trivial (ac_box rfl rfl) ?_
  rintro _ _ ⟨qb, rfl, rfl⟩
  refine Go.Sl.L.pu rfl rfl trivial (pu_assign rfl) ?_
  refine Go.Sl.L.nil ?_
  refine Gs.then_n ?_
  refine Gs.seq ?_
  refine Gs.reg ?_
  refine Go.Sl.L.pu rfl rfl trivial (pu_fa fa_66_0 rfl) ?_
  refine Go.Sl.L.rd rfl rfl trivial (rd_lda ag_31 rfl (Rdc.cl 2 (by repeat constructor) rfl) rfl) ?_
  refine Go.Sl.L.pu rfl rfl trivial (pu_fa fa_66_0 rfl) ?_
  refine Go.Sl.L.rd rfl rfl trivial (rd_lda ag_31 rfl (Rdc.cl 2 (by repeat constructor) rfl) rfl) ?_
  refine Go.Sl.L.pu rfl rfl trivial (pu_eqT (a := p.k) (b := q.k) cmp_31 (by decide) Tryz.eqGuardType31 rfl rfl) ?_
  refine Go.Sl.L.puB rfl rfl trivial (pu_move rfl) (fun hg5 => ?_) (fun hg5 => ?_)
  · skip
    have hk := of_decide_eq_true hg5
    refine Go.Sl.L.pu rfl rfl ⟨_, rfl, rfl⟩ (pu_fa fa_66_1 rfl) ?_
    refine Go.Sl.L.rd rfl rfl ⟨_, rfl, rfl⟩ (rd_ld na_64 rfl (Rdc.cl1 (by repeat constructor) rfl)) ?_
    refine Go.Sl.L.pu rfl rfl ⟨_, rfl, rfl⟩ (pu_fa fa_66_1 rfl) ?_
    refine Go.Sl.L.rd rfl rfl ⟨_, rfl, rfl⟩ (rd_ld na_64 rfl (Rdc.cl1 (by repeat constructor) rfl)) ?_
    refine Go.Sl.L.ac rfl rfl ⟨_, rfl, rfl⟩ (as_call (equalI_spec hp.1 hq.1 (by omega)) (by repeat constructor) (by repeat constructor)) ?_
    rintro _ _ ⟨_, ⟨rfl, rfl⟩, rfl⟩
    refine Go.Sl.L.pu rfl rfl trivial (by first | exact pu_pick_t rfl rfl | exact pu_pick_f rfl rfl) ?_
    refine Go.Sl.L.pu rfl rfl trivial (pu_assign rfl) ?_
    refine Go.Sl.L.nil ?_
    refine Gs.then_n ?_
    refine Gs.ret ?_
    exact Gs.fin1 Tryz.results53 rfl _ (⟨by first | (rw [show (decide (p.p = q.p)) = decide (p.t.xs = q.t.xs) from decide_eq_decide.2 ⟨fun e => congrArg Prod.snd e, fun e => by show (p.k, p.t.xs) = (q.k, q.t.xs); rw [hk, e]⟩]) | (rw [show decide (p.p = q.p) = false from decide_eq_false fun e => hk (congrArg Prod.fst e)]), rfl⟩) (by repeat constructor)
  · skip
    have hk := of_decide_eq_false hg5
    refine Go.Sl.L.off rfl rfl rfl rfl rfl rfl ?_
    refine Go.Sl.L.off rfl rfl rfl rfl rfl rfl ?_
    refine Go.Sl.L.off rfl rfl rfl rfl rfl rfl ?_
    refine Go.Sl.L.off rfl rfl rfl rfl rfl rfl ?_
    refine Go.Sl.L.off rfl rfl rfl rfl rfl rfl ?_
    refine Go.Sl.L.pu rfl rfl trivial (by first | exact pu_pick_t rfl rfl | exact pu_pick_f rfl rfl) ?_
    refine Go.Sl.L.pu rfl rfl trivial (pu_assign rfl) ?_
    refine Go.Sl.L.nil ?_
    refine Gs.then_n ?_
    refine Gs.ret ?_
    exact Gs.fin1 Tryz.results53 rfl _ (⟨by first | (rw [show (decide (p.p = q.p)) = decide (p.t.xs = q.t.xs) from decide_eq_decide.2 ⟨fun e => congrArg Prod.snd e, fun e => by show (p.k, p.t.xs) = (q.k, q.t.xs); rw [hk, e]⟩]) | (rw [show decide (p.p = q.p) = false from decide_eq_false fun e => hk (congrArg Prod.fst e)]), rfl⟩) (by repeat constructor)
theorem equalP_spec {S : HProp} {a b : Option Addr} {c d : Nat} {xs ys : List PostV} (hS : PRd S a xs) (hU : PRd S b ys) (hl : xs.length ≤ 1000000) :
    Ct Tryz.prog 56 [.slice a xs.length c, .slice b ys.length d, .func (.func 53) #[] #[]] [S] (fun v hs => v = .bool (decide (plain1 xs = plain1 ys)) ∧ hs = [S]) := by
  refine Ct.intro Tryz.func56 rfl (by kernel_rfl) 32 Tryz.ntmps56 (Nat.le_of_ble_eq_true rfl) fun w0 R => ?_
  refine Gs.slAddr (hS.1.h (by repeat constructor)) fun ab ao ha => ?_
  refine Gs.slAddr (hU.1.h (by repeat constructor)) fun ub uo hu => ?_
  refine Gs.seq ?_
  refine Gs.reg ?_
  refine Go.Sl.L.pu rfl rfl trivial (pu_assign rfl) ?_
  refine Go.Sl.L.nil ?_
  refine Gs.then_n ?_
  refine Gs.seq ?_
  refine Gs.seq ?_
  refine Gs.reg ?_
  refine Go.Sl.L.pu rfl rfl trivial (pu_move rfl) ?_
  refine Go.Sl.L.pu rfl rfl trivial (pu_len Tryz.underlying42 rfl) ?_
  refine Go.Sl.L.pu rfl rfl trivial (pu_move rfl) ?_
  refine Go.Sl.L.pu rfl rfl trivial (pu_len Tryz.underlying42 rfl) ?_
  refine Go.Sl.L.pu rfl rfl trivial (pu_ne rfl rfl) ?_
  refine Go.Sl.L.nil ?_
  refine Gs.then_n ?_
  refine Gs.cond rfl (fun hc0 => ?_) (fun hc0 => ?_)
  · skip
    have hne : ¬ plain1 xs = plain1 ys := fun e => by
      have h := of_decide_eq_true hc0
      have h2 := congrArg List.length e
      simp only [plain1, List.length_map] at h2
      rw [h2] at h; exact h rfl
    refine Gs.seq ?_
    refine Gs.reg ?_
    refine Go.Sl.L.pu rfl rfl trivial (pu_assign rfl) ?_
    refine Go.Sl.L.nil ?_
    refine Gs.then_n ?_
    refine Gs.ret ?_
    refine Gs.then_r ?_
    exact Gs.fin1 Tryz.results56 rfl _ (⟨by rw [decide_eq_false hne], rfl⟩) (by repeat constructor)
  · skip
    have hle : xs.length = ys.length := by have := of_decide_eq_false hc0; omega
    refine Gs.skip ?_
    refine Gs.then_n ?_
    refine Gs.seq ?_
    refine Gs.seq ?_
    refine Gs.reg ?_
    refine Go.Sl.L.pu rfl rfl trivial (pu_move rfl) ?_
    refine Go.Sl.L.pu rfl rfl trivial (pu_len Tryz.underlying42 rfl) ?_
    refine Go.Sl.L.pu rfl rfl trivial (pu_move rfl) ?_
    refine Go.Sl.L.nil ?_
    refine Gs.then_n ?_
    refine Gs.block ?_
    refine Gs.loop1 (fun i : Nat => i ≤ xs.length ∧ (plain1 xs).take i = (plain1 ys).take i) (fun i => [(1, .slice b ys.length d), (2, .func (.func 53) #[] #[]), (15, .slice a xs.length c), (16, int xs.length), (17, int i)]) (fun i => [S] ++ R) (fun i => xs.length - i) 0 (⟨Nat.zero_le _, rfl⟩) (by repeat constructor) (by repeat constructor) (fun i ⟨hi, ht⟩ => ?_)
    refine Gs.seq ?_
    refine Gs.reg ?_
    refine Go.Sl.L.pu rfl rfl trivial (pu_lt rfl rfl) ?_
    refine Go.Sl.L.nil ?_
    refine Gs.then_n ?_
    refine Gs.seq ?_
    refine Gs.cond rfl (fun hc1 => ?_) (fun hc1 => ?_)
    · skip
      have hlt : i < xs.length := by have := of_decide_eq_true hc1; omega
      obtain ⟨x, hx⟩ : ∃ x, xs[i]? = some x := ⟨xs[i], by simp [hlt]⟩
      obtain ⟨y, hy⟩ : ∃ x, ys[i]? = some x := ⟨ys[i]'(by omega), by simp [← hle, hlt]⟩
      obtain rfl := ha (by rintro rfl; simp at hlt)
      obtain rfl := hu (by rintro rfl; simp at hy)
      have hx1 := plain_at hx
      have hy1 := plain_at hy
      have hxa := hS.2 x (List.mem_of_getElem? hx)
      have hya := hU.2 y (List.mem_of_getElem? hy)
      refine Gs.skip ?_
      refine Gs.then_n ?_
      refine Gs.seq ?_
      refine Gs.block ?_
      refine Gs.seq ?_
      refine Gs.reg ?_
      refine Go.Sl.L.pu rfl rfl trivial (pu_move rfl) ?_
      refine Go.Sl.L.pu rfl rfl trivial (pu_ia se_42 rfl rfl (by omega) (by omega)) ?_
      refine Go.Sl.L.rd rfl rfl trivial (rd_lda ag_66 rfl (Rdc.el0 (hS.1.h (by repeat constructor)) hx rfl rfl) rfl) ?_
      refine Go.Sl.L.ac rfl rfl trivial (ac_alloc zv_66 rfl) ?_
      rintro _ _ ⟨pb, rfl, rfl⟩
      refine Go.Sl.L.pu rfl rfl trivial (pu_assign rfl) ?_
      refine Go.Sl.L.ac0 rfl trivial (ac_st sz_66 rfl rfl (by repeat constructor) rfl rfl rfl rfl) ?_
      rintro _ _ rfl
      refine Go.Sl.L.nil ?_
      refine Gs.then_n ?_
      refine Gs.seq ?_
      refine Gs.reg ?_
      refine Go.Sl.L.pu rfl rfl trivial (pu_move rfl) ?_
      refine Go.Sl.L.pu rfl rfl trivial (pu_move rfl) ?_
      refine Go.Sl.L.pu rfl rfl trivial (pu_ia se_42 rfl rfl (by omega) (by omega)) ?_
      refine Go.Sl.L.rd rfl rfl trivial (rd_lda ag_66 rfl (Rdc.el0 (hU.1.h (by repeat constructor)) hy rfl rfl) rfl) ?_
      refine Go.Sl.L.ac rfl rfl trivial (ac_alloc zv_66 rfl) ?_
      rintro _ _ ⟨qb, rfl, rfl⟩
      refine Go.Sl.L.ac0 rfl trivial (ac_st sz_66 rfl rfl (by repeat constructor) rfl rfl rfl rfl) ?_
      rintro _ _ rfl
      refine Go.Sl.L.nil ?_
      refine Gs.then_n ?_
      refine Gs.seq ?_
      refine Gs.reg ?_
      refine Go.Sl.L.pu rfl rfl trivial (pu_move rfl) ?_
      refine Go.Sl.L.rd rfl rfl trivial (rd_lda ag_66 rfl (Rdc.cl 3 (by repeat constructor) rfl) rfl) ?_
      refine Go.Sl.L.rd rfl rfl trivial (rd_lda ag_66 rfl (Rdc.cl 3 (by repeat constructor) rfl) rfl) ?_
      refine Go.Sl.L.ac rfl rfl trivial (as_callV rfl (same1_spec (p := x) (q := y) hxa hya) (by repeat constructor) (by repeat constructor)) ?_
      rintro _ _ ⟨_, ⟨rfl, rfl⟩, rfl⟩
      refine Go.Sl.L.pu rfl rfl trivial (pu_not rfl) ?_
      refine Go.Sl.L.nil ?_
      refine Gs.then_n ?_
      refine Gs.cond rfl (fun hc2 => ?_) (fun hc2 => ?_)
      · skip
        have hne : ¬ plain1 xs = plain1 ys := fun e => by
          have h := of_decide_eq_false (not_t hc2)
          rw [e, hy1] at hx1
          exact h (Option.some.inj hx1).symm
        refine Gs.seq ?_
        refine Gs.reg ?_
        refine Go.Sl.L.pu rfl rfl trivial (pu_assign rfl) ?_
        refine Go.Sl.L.nil ?_
        refine Gs.then_n ?_
        refine Gs.ret ?_
        refine Gs.blk_r ?_
        refine Gs.then_r ?_
        refine Gs.then_r ?_
        refine Gs.blk_r ?_
        refine Gs.then_r ?_
        exact Gs.fin1 Tryz.results56 rfl _ (⟨by rw [decide_eq_false hne], rfl⟩) (by repeat constructor)
      · skip
        have hxy : x.p = y.p := of_decide_eq_true (not_f hc2)
        refine Gs.skip ?_
        refine Gs.blk_n ?_
        refine Gs.then_n ?_
        refine Gs.reg ?_
        refine Go.Sl.L.pu rfl rfl trivial (by first | exact pu_addI rfl rfl rfl (by omega) (by omega) | exact pu_add rfl rfl) ?_
        refine Go.Sl.L.pu rfl rfl trivial (pu_move rfl) ?_
        refine Go.Sl.L.nil ?_
        refine Gs.then_n ?_
        exact Gs.again1 (i + 1) ⟨by omega, by rw [List.take_add_one, List.take_add_one, ht, hx1, hy1, hxy]⟩ (by omega) (by repeat constructor) (by repeat constructor)
    · skip
      have hge : i = xs.length := by have := of_decide_eq_false hc1; omega
      have heq : plain1 xs = plain1 ys := by rw [hge, List.take_of_length_le (by simp), List.take_of_length_le (by simp [hle])] at ht; exact ht
      refine Gs.exit ?_
      refine Gs.then_x ?_
      refine Gs.then_x ?_
      refine Gs.blk_hit ?_
      refine Gs.then_n ?_
      refine Gs.seq ?_
      refine Gs.reg ?_
      refine Go.Sl.L.pu rfl rfl trivial (pu_assign rfl) ?_
      refine Go.Sl.L.nil ?_
      refine Gs.then_n ?_
      refine Gs.ret ?_
      exact Gs.fin1 Tryz.results56 rfl _ (⟨by rw [decide_eq_true heq], rfl⟩) (by repeat constructor)
theorem same2_spec {S : HProp} {a b : Option Addr} {c d fb : Nat} {xs ys : List PostV} (hS : PRd S a xs) (hU : PRd S b ys) (hl : xs.length ≤ 1000000) :
    Ct Tryz.prog 55 ([] ++ [.slice a xs.length c, .slice b ys.length d] ++ [ptr fb]) [S, cl fb 100 [.func (.func 53) #[] #[]]] (fun v hs => v = .bool (decide (plain1 xs = plain1 ys)) ∧ hs = [S, cl fb 100 [.func (.func 53) #[] #[]]]) := by
  refine Ct.intro Tryz.func55 rfl (by kernel_rfl) 10 Tryz.ntmps55 (Nat.le_of_ble_eq_true rfl) fun w0 R => ?_
  refine Gs.seq ?_
  refine Gs.reg ?_
  refine Go.Sl.L.pu rfl rfl trivial (pu_assign rfl) ?_
  refine Go.Sl.L.nil ?_
  refine Gs.then_n ?_
  refine Gs.seq ?_
  refine Gs.reg ?_
  refine Go.Sl.L.pu rfl rfl trivial (pu_move rfl) ?_
  refine Go.Sl.L.pu rfl rfl trivial (pu_move rfl) ?_
  refine Go.Sl.L.rd rfl rfl trivial (rd_ld na_100 rfl (Rdc.cl1 (by repeat constructor) rfl)) ?_
  refine Go.Sl.L.ac rfl rfl trivial (as_call (equalP_spec hS hU hl) (by repeat constructor) (by repeat constructor)) ?_
  rintro _ _ ⟨_, ⟨rfl, rfl⟩, rfl⟩
  refine Go.Sl.L.pu rfl rfl trivial (pu_assign rfl) ?_
  refine Go.Sl.L.nil ?_
  refine Gs.then_n ?_
  refine Gs.ret ?_
  exact Gs.fin1 Tryz.results55 rfl _ (⟨rfl, rfl⟩) (by repeat constructor)
def okE (Q : PL) (p : ByteArray × SlV PostV) : Bool := decide (mget Q p.1 = some (plain1 p.2.xs))
theorem mapsB_len {P Q : PL} (h : ¬ P.length = Q.length) : mapsB P Q = false := by unfold mapsB; rw [decide_eq_false h]; rfl
theorem mapsB_bad {L : List (ByteArray × SlV PostV)} {Q : PL} {e : ByteArray × SlV PostV} (he : e ∈ L) (h : okE Q e = false) : mapsB (plL L) Q = false := by
  unfold mapsB
  rw [show ((plL L).all fun p => decide (mget Q p.1 = some p.2)) = false from ?_, Bool.and_false]
  rw [List.all_eq_false]
  exact ⟨(e.1, plain1 e.2.xs), List.mem_map.2 ⟨e, he, rfl⟩, by rw [show decide (mget Q e.1 = some (plain1 e.2.xs)) = false from h]; decide⟩
theorem mapsB_ok {L : List (ByteArray × SlV PostV)} {Q : PL} (hl : L.length = Q.length) (h : ∀ e ∈ L, okE Q e = true) : mapsB (plL L) Q = true := by
  unfold mapsB
  rw [decide_eq_true (show (plL L).length = Q.length by simp [plL, mm, hl]), Bool.true_and, List.all_eq_true]
  intro p hp
  obtain ⟨e, he, rfl⟩ := List.mem_map.1 hp
  exact h e he
theorem equalM_spec {S : HProp} (m1 m2 fb : Nat) (L1 L2 : List (ByteArray × SlV PostV)) (h1 : RdL S L1) (h2 : RdL S L2) (hl : L1.length ≤ 1000000) :
    Ct Tryz.prog 58 [.map (some m1), .map (some m2), .func (.func 55) #[] #[ptr fb]]
      [mp strV slV m1 L1, mp strV slV m2 L2, S, cl fb 100 [.func (.func 53) #[] #[]]]
      (fun v hs => v = .bool (mapsB (plL L1) (plL L2)) ∧ hs = [mp strV slV m1 L1, mp strV slV m2 L2, S, cl fb 100 [.func (.func 53) #[] #[]]]) := by
  refine Ct.intro Tryz.func58 rfl (by kernel_rfl) 38 Tryz.ntmps58 (Nat.le_of_ble_eq_true rfl) fun w0 R => ?_
  refine Gs.seq ?_
  refine Gs.reg ?_
  refine Go.Sl.L.pu rfl rfl trivial (pu_assign rfl) ?_
  refine Go.Sl.L.nil ?_
  refine Gs.then_n ?_
  refine Gs.seq ?_
  refine Gs.seq ?_
  refine Gs.reg ?_
  refine Go.Sl.L.pu rfl rfl trivial (pu_move rfl) ?_
  refine Go.Sl.L.rd rfl rfl trivial (rd_lenM Tryz.underlying69 rfl (by repeat constructor)) ?_
  refine Go.Sl.L.pu rfl rfl trivial (pu_move rfl) ?_
  refine Go.Sl.L.rd rfl rfl trivial (rd_lenM Tryz.underlying69 rfl (by repeat constructor)) ?_
  refine Go.Sl.L.pu rfl rfl trivial (pu_ne rfl rfl) ?_
  refine Go.Sl.L.nil ?_
  refine Gs.then_n ?_
  refine Gs.cond rfl (fun hc0 => ?_) (fun hc0 => ?_)
  · skip
    have hne : mapsB (plL L1) (plL L2) = false := mapsB_len fun e => by
      have h := of_decide_eq_true hc0
      simp only [plL, mm, List.length_map] at e
      rw [e] at h; exact h rfl
    refine Gs.seq ?_
    refine Gs.reg ?_
    refine Go.Sl.L.pu rfl rfl trivial (pu_assign rfl) ?_
    refine Go.Sl.L.nil ?_
    refine Gs.then_n ?_
    refine Gs.ret ?_
    refine Gs.then_r ?_
    exact Gs.fin1 Tryz.results58 rfl _ (⟨by rw [hne], rfl⟩) (by repeat constructor)
  · skip
    have hle : L1.length = (plL L2).length := by have := of_decide_eq_false hc0; simp [plL, mm]; omega
    refine Gs.skip ?_
    refine Gs.then_n ?_
    refine Gs.seq ?_
    refine Gs.seq ?_
    refine Gs.reg ?_
    refine Go.Sl.L.pu rfl rfl trivial (pu_move rfl) ?_
    refine Go.Sl.L.ac rfl rfl trivial (ac_range (enck := strV) (encv := slV) Tryz.underlying69 rfl (by repeat constructor)) ?_
    rintro _ _ ⟨ri, rfl, rfl⟩
    refine Go.Sl.L.nil ?_
    refine Gs.then_n ?_
    refine Gs.block ?_
    refine Gs.loop1 (fun s : List (ByteArray × SlV PostV) × List (ByteArray × SlV PostV) × Option (ByteArray × SlV PostV) => List.Perm (s.1 ++ s.2.1) L1 ∧ ∀ p ∈ s.1, okE (plL L2) p = true) (fun s => [(1, .map (some m2)), (2, .func (.func 55) #[] #[ptr fb]), (17, ptr ri)]) (fun s => [itr strV slV ri m1 L1 s.2.1 s.2.2, mp strV slV m2 L2, S, cl fb 100 [.func (.func 53) #[] #[]]] ++ R) (fun s => s.2.1.length) ([], L1, none) (⟨List.Perm.refl _, fun _ h => by cases h⟩) (by repeat constructor) (by repeat constructor) (fun s hs => ?_)
    obtain ⟨pre, left, last⟩ := s
    obtain ⟨hs, hok⟩ := hs
    dsimp only at hs hok ⊢
    refine Gs.seq ?_
    refine Gs.reg ?_
    refine Go.Sl.L.ac rfl rfl trivial (ac_next rfl (by repeat constructor)) ?_
    rintro _ _ (⟨hl, rfl, rfl⟩ | ⟨j, e, he, rfl, rfl⟩)
    · skip
      have hl' : left = [] := hl
      subst hl'
      rw [List.append_nil] at hs
      have hyes := mapsB_ok hle fun e he => hok e (hs.symm.subset he)
      refine Gs.itrEnd (by repeat constructor) ?_
      refine Go.Sl.L.pu rfl rfl trivial (pu_extract rfl rfl) ?_
      refine Go.Sl.L.nil ?_
      refine Gs.then_n ?_
      refine Gs.seq ?_
      refine Gs.cond_f rfl ?_
      refine Gs.exit ?_
      refine Gs.then_x ?_
      refine Gs.then_x ?_
      refine Gs.blk_hit ?_
      refine Gs.then_n ?_
      refine Gs.seq ?_
      refine Gs.reg ?_
      refine Go.Sl.L.pu rfl rfl trivial (pu_assign rfl) ?_
      refine Go.Sl.L.nil ?_
      refine Gs.then_n ?_
      refine Gs.ret ?_
      exact Gs.fin1 Tryz.results58 rfl _ (⟨by rw [hyes], rfl⟩) (by repeat constructor)
    · skip
      have hjl := (List.getElem?_eq_some_iff.1 he).1
      have hperm : List.Perm ((pre ++ [e]) ++ left.eraseIdx j) L1 := by
        refine List.Perm.trans ?_ hs
        rw [List.append_assoc]
        exact List.Perm.append_left pre (l_erase_perm he)
      have hlt : (left.eraseIdx j).length < left.length := by
        rw [List.length_eraseIdx_of_lt hjl]; omega
      have heM : e ∈ L1 := hs.subset (List.mem_append_right _ (List.mem_of_getElem? he))
      have hrd := h1 e heM
      refine Go.Sl.L.pu rfl rfl trivial (pu_extract rfl rfl) ?_
      refine Go.Sl.L.nil ?_
      refine Gs.then_n ?_
      refine Gs.seq ?_
      refine Gs.cond_t rfl ?_
      refine Gs.skip ?_
      refine Gs.then_n ?_
      refine Gs.block ?_
      refine Gs.seq ?_
      refine Gs.reg ?_
      refine Go.Sl.L.rd rfl rfl trivial (ac_entry rfl (by repeat constructor)) ?_
      refine Go.Sl.L.pu rfl rfl trivial (pu_extract rfl rfl) ?_
      refine Go.Sl.L.pu rfl rfl trivial (pu_extract rfl rfl) ?_
      refine Go.Sl.L.pu rfl rfl trivial (pu_assign rfl) ?_
      refine Go.Sl.L.pu rfl rfl trivial (pu_assign rfl) ?_
      refine Go.Sl.L.nil ?_
      refine Gs.then_n ?_
      refine Gs.seq ?_
      refine Gs.reg ?_
      refine Go.Sl.L.pu rfl rfl trivial (pu_move rfl) ?_
      refine Go.Sl.L.pu rfl rfl trivial (pu_move rfl) ?_
      refine Go.Sl.L.rd rfl rfl trivial (rd_look2 (k := e.1) Tryz.underlying69 kt_9 zvk_42 rfl rfl (by repeat constructor)) ?_
      refine Go.Sl.L.pu rfl rfl trivial (pu_move rfl) ?_
      refine Go.Sl.L.pu rfl rfl trivial (pu_extract rfl rfl) ?_
      refine Go.Sl.L.pu rfl rfl trivial (pu_extract rfl rfl) ?_
      refine Go.Sl.L.pu rfl rfl trivial (pu_assign rfl) ?_
      refine Go.Sl.L.pu rfl rfl trivial (pu_assign rfl) ?_
      refine Go.Sl.L.nil ?_
      refine Gs.then_n ?_
      refine Gs.seq ?_
      refine Gs.reg ?_
      refine Go.Sl.L.pu rfl rfl trivial (pu_move rfl) ?_
      refine Go.Sl.L.pu rfl rfl trivial (pu_not rfl) ?_
      refine Go.Sl.L.puB rfl rfl trivial (pu_move rfl) (fun hg2 => ?_) (fun hg2 => ?_)
      · skip
        have hno : okE (plL L2) e = false := by
          unfold okE; rw [plL, mm_get]
          cases h : mget L2 e.1 with
          | none => simp
          | some s => rw [h] at hg2; cases hg2
        have hne := mapsB_bad heM hno
        refine Go.Sl.L.off rfl rfl rfl rfl rfl rfl ?_
        refine Go.Sl.L.off rfl rfl rfl rfl rfl rfl ?_
        refine Go.Sl.L.off rfl rfl rfl rfl rfl rfl ?_
        refine Go.Sl.L.off rfl rfl rfl rfl rfl rfl ?_
        refine Go.Sl.L.off rfl rfl rfl rfl rfl rfl ?_
        refine Go.Sl.L.pu rfl rfl trivial (by first | exact pu_pick_t rfl rfl | exact pu_pick_f rfl rfl) ?_
        refine Go.Sl.L.nil ?_
        refine Gs.then_n ?_
        refine Gs.cond_t rfl ?_
        refine Gs.seq ?_
        refine Gs.reg ?_
        refine Go.Sl.L.pu rfl rfl trivial (pu_assign rfl) ?_
        refine Go.Sl.L.nil ?_
        refine Gs.then_n ?_
        refine Gs.ret ?_
        refine Gs.blk_r ?_
        refine Gs.then_r ?_
        refine Gs.blk_r ?_
        refine Gs.then_r ?_
        refine Gs.itrEnd (by repeat constructor) ?_
        exact Gs.fin1 Tryz.results58 rfl _ (⟨by rw [hne], rfl⟩) (by repeat constructor)
      · skip
        have hsome : mget L2 e.1 = some (lisT L2 e.1) := by
          unfold lisT
          cases h : mget L2 e.1 with
          | none => rw [h] at hg2; cases hg2
          | some s => rfl
        have heq : okE (plL L2) e = decide (plain1 e.2.xs = plain1 (lisT L2 e.1).xs) := by
          unfold okE; rw [plL, mm_get, hsome]
          exact decide_eq_decide.2 ⟨fun h => (Option.some.inj h).symm, fun h => by rw [h]; rfl⟩
        refine Go.Sl.L.pu rfl rfl ⟨_, rfl, rfl⟩ (pu_move rfl) ?_
        refine Go.Sl.L.pu rfl rfl ⟨_, rfl, rfl⟩ (pu_move rfl) ?_
        refine Go.Sl.L.pu rfl rfl ⟨_, rfl, rfl⟩ (pu_move rfl) ?_
        refine Go.Sl.L.ac rfl rfl ⟨_, rfl, rfl⟩ (as_callV rfl (same2_spec (xs := e.2.xs) (ys := (lisT L2 e.1).xs) hrd.1 (lisT_rd h2 e.1).1 (by omega)) (by repeat constructor) (by repeat constructor)) ?_
        rintro _ _ ⟨_, ⟨rfl, rfl⟩, rfl⟩
        refine Go.Sl.L.pu rfl rfl ⟨_, rfl, rfl⟩ (pu_not rfl) ?_
        refine Go.Sl.L.pu rfl rfl trivial (by first | exact pu_pick_t rfl rfl | exact pu_pick_f rfl rfl) ?_
        refine Go.Sl.L.nil ?_
        refine Gs.then_n ?_
        refine Gs.cond rfl (fun hc2 => ?_) (fun hc2 => ?_)
        · skip
          have hne := mapsB_bad heM (heq.trans (not_t hc2))
          refine Gs.seq ?_
          refine Gs.reg ?_
          refine Go.Sl.L.pu rfl rfl trivial (pu_assign rfl) ?_
          refine Go.Sl.L.nil ?_
          refine Gs.then_n ?_
          refine Gs.ret ?_
          refine Gs.blk_r ?_
          refine Gs.then_r ?_
          refine Gs.blk_r ?_
          refine Gs.then_r ?_
          refine Gs.itrEnd (by repeat constructor) ?_
          exact Gs.fin1 Tryz.results58 rfl _ (⟨by rw [hne], rfl⟩) (by repeat constructor)
        · skip
          have hok2 : ∀ p ∈ pre ++ [e], okE (plL L2) p = true := fun p hp => by
            rcases List.mem_append.1 hp with hp | hp
            · exact hok p hp
            · rw [List.mem_singleton.1 hp, heq]; exact not_f hc2
          refine Gs.skip ?_
          refine Gs.blk_n ?_
          refine Gs.then_n ?_
          exact Gs.again1 (pre ++ [e], left.eraseIdx j, some e) ⟨hperm, hok2⟩ hlt (by repeat constructor) (by repeat constructor)
theorem RdL.r {S U : HProp} {L : List (ByteArray × SlV PostV)} (h : RdL U L) : RdL (two S U) L := fun p hp => ⟨(h p hp).1.r, (h p hp).2⟩
theorem keysO_spec (x ml mw : Nat) (W : List (Key × SlV ByteArray)) (hl : W.length ≤ 100000) :
    Ct Tryz.prog 23 [ptr x] [cl x 72 [.map (some ml), .map (some mw)], mp keyV slV mw W] (fun v hs => ∃ a c, v = .slice a (sortK (mkeys W)).length c ∧ hs = [cl x 72 [.map (some ml), .map (some mw)], mp keyV slV mw W, sl 31 2 keyC a c (sortK (mkeys W))]) := by
  refine Ct.intro Tryz.func23 rfl (by kernel_rfl) 11 Tryz.ntmps23 (Nat.le_of_ble_eq_true rfl) fun w0 R => ?_
  refine Gs.mpNodup (enck := keyV) (encv := (slV : SlV ByteArray → Value)) (b := mw) (m := W) (by repeat constructor) fun hn => ?_
  refine Gs.seq ?_
  refine Gs.reg ?_
  refine Go.Sl.L.pu rfl rfl trivial (pu_assign rfl) ?_
  refine Go.Sl.L.nil ?_
  refine Gs.then_n ?_
  refine Gs.seq ?_
  refine Gs.seq ?_
  refine Gs.reg ?_
  refine Go.Sl.L.pu rfl rfl trivial (pu_move rfl) ?_
  refine Go.Sl.L.pu rfl rfl trivial (pu_eqN Tryz.underlying25 rfl rfl) ?_
  refine Go.Sl.L.nil ?_
  refine Gs.then_n ?_
  refine Gs.cond_ff rfl rfl ?_
  refine Gs.skip ?_
  refine Gs.then_n ?_
  refine Gs.seq ?_
  refine Gs.reg ?_
  refine Go.Sl.L.pu rfl rfl trivial (pu_move rfl) ?_
  refine Go.Sl.L.pu rfl rfl trivial (by first | exact pu_nil rfl | exact pu_nilF rfl) ?_
  refine Go.Sl.L.pu rfl rfl trivial (pu_fa fa_72_1 rfl) ?_
  refine Go.Sl.L.rd rfl rfl trivial (rd_ld na_70 rfl (Rdc.cl1 (by repeat constructor) rfl)) ?_
  refine Go.Sl.L.ac rfl rfl trivial (as_call (w_keysFn_spec mw) (by repeat constructor) (by repeat constructor)) ?_
  rintro _ _ ⟨_, ⟨fb, rfl, rfl⟩, rfl⟩
  refine Go.Sl.L.ac rfl rfl trivial (as_call (sortedW_spec fb mw W hl hn) (by repeat constructor) (by repeat constructor)) ?_
  rintro _ _ ⟨_, ⟨sa, sc, rfl, rfl⟩, rfl⟩
  refine Go.Sl.L.pu rfl rfl trivial (pu_assign rfl) ?_
  refine Go.Sl.L.nil ?_
  refine Gs.then_n ?_
  refine Gs.ret ?_
  exact Gs.fin1 Tryz.results23 rfl _ (⟨sa, sc, rfl, rfl⟩) (by repeat constructor)
theorem same_spec (x y : Nat) (L1 L2 : List (ByteArray × SlV PostV)) (W1 W2 : List (Key × SlV ByteArray)) (hw1 : W1.length ≤ 100000) (hw2 : W2.length ≤ 100000) (hl : L1.length ≤ 1000000) :
    Ct Tryz.prog 24 [ptr x, ptr y] [ixA x L1 W1, ixA y L2 W2] (fun v hs => v = .bool (sameB (plL L1, plW W1) (plL L2, plW W2)) ∧ hs = [ixA x L1 W1, ixA y L2 W2]) := by
  have hk1 : mkeys (plW W1) = mkeys W1 := by simp [plW, mm, mkeys]
  have hk2 : mkeys (plW W2) = mkeys W2 := by simp [plW, mm, mkeys]
  refine Ct.intro Tryz.func24 rfl (by kernel_rfl) 34 Tryz.ntmps24 (Nat.le_of_ble_eq_true rfl) fun w0 R => ?_
  refine Gs.ix fun ml mw S hL1 hW1 => ?_
  refine Gs.takes (As := [ixA y L2 W2]) (by repeat constructor) (Gs.ix fun nl nw U hL2 hW2 => ?_)
  refine Gs.takes (As := [S, U]) (by repeat constructor) (Gs.toTwo ?_)
  refine Gs.seq ?_
  refine Gs.reg ?_
  refine Go.Sl.L.pu rfl rfl trivial (pu_assign rfl) ?_
  refine Go.Sl.L.nil ?_
  refine Gs.then_n ?_
  refine Gs.seq ?_
  refine Gs.seq ?_
  refine Gs.reg ?_
  refine Go.Sl.L.pu rfl rfl trivial (pu_move rfl) ?_
  refine Go.Sl.L.pu rfl rfl trivial (pu_eqN Tryz.underlying25 rfl rfl) ?_
  refine Go.Sl.L.puBf rfl rfl trivial (pu_move rfl) rfl ?_
  refine Go.Sl.L.pu rfl rfl ⟨_, rfl, rfl⟩ (pu_move rfl) ?_
  refine Go.Sl.L.pu rfl rfl ⟨_, rfl, rfl⟩ (pu_eqN Tryz.underlying25 rfl rfl) ?_
  refine Go.Sl.L.pu rfl rfl trivial (by first | exact pu_pick_t rfl rfl | exact pu_pick_f rfl rfl) ?_
  refine Go.Sl.L.nil ?_
  refine Gs.then_n ?_
  refine Gs.cond_ff rfl rfl ?_
  refine Gs.skip ?_
  refine Gs.then_n ?_
  refine Gs.seq ?_
  refine Gs.reg ?_
  refine Go.Sl.L.ac rfl rfl trivial (ac_alloc zv_100 rfl) ?_
  rintro _ _ ⟨fb, rfl, rfl⟩
  refine Go.Sl.L.ac0 rfl trivial (ac_st sz_100 rfl rfl (by repeat constructor) rfl rfl rfl rfl) ?_
  rintro _ _ rfl
  refine Go.Sl.L.nil ?_
  refine Gs.then_n ?_
  refine Gs.seq ?_
  refine Gs.reg ?_
  refine Go.Sl.L.pu rfl rfl trivial (pu_func (by repeat constructor) (by repeat constructor)) ?_
  refine Go.Sl.L.pu rfl rfl trivial (pu_assign rfl) ?_
  refine Go.Sl.L.nil ?_
  refine Gs.then_n ?_
  refine Gs.seq ?_
  refine Gs.regD mixed (by kernel_rfl) ?_
  refine Rg.pu 0 rfl rfl (by kernel_rfl) trivial (pu_move rfl) ?_
  refine Rg.pu 2 rfl rfl (by kernel_rfl) trivial (pu_move rfl) ?_
  refine Rg.one (by kernel_rfl) (Stp.ac 1 rfl rfl (by kernel_rfl) trivial (as_call (keysO_spec x ml mw W1 hw1) (by repeat constructor) (by repeat constructor))  ?_)
  rintro _ _ ⟨_, ⟨ka, kc, rfl, rfl⟩, rfl⟩
  refine Rg.one (by kernel_rfl) (Stp.ac 3 rfl rfl (by kernel_rfl) trivial (as_call (keysO_spec y nl nw W2 hw2) (by repeat constructor) (by repeat constructor))  ?_)
  rintro _ _ ⟨_, ⟨ja, jc, rfl, rfl⟩, rfl⟩
  refine Rg.one (by kernel_rfl) (Stp.ac 4 rfl rfl (by kernel_rfl) trivial (as_call (Ct.two (equalK_spec (S := two (sl 31 2 keyC ka kc (sortK (mkeys W1))) (sl 31 2 keyC ja jc (sortK (mkeys W2)))) (Srd.two1 Srd.own) (Srd.two2 Srd.own) (by rw [sortK_length]; simp [mkeys]; omega)) (by rintro _ _ ⟨_, rfl⟩; exact ⟨_, rfl⟩)) (by repeat constructor) (by repeat constructor))  ?_)
  rintro _ _ ⟨_, ⟨_, ⟨rfl, ⟨⟩⟩, rfl⟩, rfl⟩
  refine Rg.puB 5 rfl rfl (by kernel_rfl) trivial (pu_move rfl) (fun hg5 => ?_) (fun hg5 => ?_)
  · skip
    have hk := of_decide_eq_true hg5
    refine Rg.pu 6 rfl rfl (by kernel_rfl) ⟨_, rfl, rfl⟩ (pu_move rfl) ?_
    refine Rg.pu 7 rfl rfl (by kernel_rfl) ⟨_, rfl, rfl⟩ (by first | exact pu_nil rfl | exact pu_nilF rfl) ?_
    refine Rg.pu 8 rfl rfl (by kernel_rfl) ⟨_, rfl, rfl⟩ (pu_fa fa_72_0 rfl) ?_
    refine Rg.rd 9 rfl rfl (by kernel_rfl) ⟨_, rfl, rfl⟩ (rd_ld na_69 rfl (Rdc.cl1 (by repeat constructor) rfl)) ?_
    refine Rg.pu 10 rfl rfl (by kernel_rfl) ⟨_, rfl, rfl⟩ (pu_move rfl) ?_
    refine Rg.pu 11 rfl rfl (by kernel_rfl) ⟨_, rfl, rfl⟩ (by first | exact pu_nil rfl | exact pu_nilF rfl) ?_
    refine Rg.pu 12 rfl rfl (by kernel_rfl) ⟨_, rfl, rfl⟩ (pu_fa fa_72_0 rfl) ?_
    refine Rg.rd 13 rfl rfl (by kernel_rfl) ⟨_, rfl, rfl⟩ (rd_ld na_69 rfl (Rdc.cl1 (by repeat constructor) rfl)) ?_
    refine Rg.pu 14 rfl rfl (by kernel_rfl) ⟨_, rfl, rfl⟩ (pu_move rfl) ?_
    refine Rg.one (by kernel_rfl) (Stp.ac 15 rfl rfl (by kernel_rfl) ⟨_, rfl, rfl⟩ (as_call (equalM_spec ml nl fb L1 L2 (hL1.l) (hL2.r) hl) (by repeat constructor) (by repeat constructor))  ?_)
    rintro _ _ ⟨_, ⟨rfl, rfl⟩, rfl⟩
    refine Rg.pu 16 rfl rfl (by kernel_rfl) trivial (by first | exact pu_pick_t rfl rfl | exact pu_pick_f rfl rfl) ?_
    refine Rg.pu 17 rfl rfl (by kernel_rfl) trivial (pu_assign rfl) ?_
    refine Rg.end (by kernel_rfl) ?_
    refine Gs.then_n ?_
    refine Gs.ret ?_
    refine Gs.takes (As := [two S U]) (by repeat constructor) (Gs.two ?_)
    refine Gs.takes (As := [cl y 72 [.map (some nl), .map (some nw)], mp strV slV nl L2, mp keyV slV nw W2, U]) (by repeat constructor) (Gs.ixc hL2 hW2 ?_)
    refine Gs.takes (As := [cl x 72 [.map (some ml), .map (some mw)], mp strV slV ml L1, mp keyV slV mw W1, S]) (by repeat constructor) (Gs.ixc hL1 hW1 ?_)
    exact Gs.fin1 Tryz.results24 rfl _ (⟨by unfold sameB; rw [hk1, hk2]; first | (rw [decide_eq_true hk]; rfl) | (rw [decide_eq_false hk]; rfl), rfl⟩) (by repeat constructor)
  · skip
    have hk := of_decide_eq_false hg5
    refine Rg.off 6 rfl rfl (by kernel_rfl) rfl rfl rfl rfl ?_
    refine Rg.off 7 rfl rfl (by kernel_rfl) rfl rfl rfl rfl ?_
    refine Rg.off 8 rfl rfl (by kernel_rfl) rfl rfl rfl rfl ?_
    refine Rg.off 9 rfl rfl (by kernel_rfl) rfl rfl rfl rfl ?_
    refine Rg.off 10 rfl rfl (by kernel_rfl) rfl rfl rfl rfl ?_
    refine Rg.off 11 rfl rfl (by kernel_rfl) rfl rfl rfl rfl ?_
    refine Rg.off 12 rfl rfl (by kernel_rfl) rfl rfl rfl rfl ?_
    refine Rg.off 13 rfl rfl (by kernel_rfl) rfl rfl rfl rfl ?_
    refine Rg.off 14 rfl rfl (by kernel_rfl) rfl rfl rfl rfl ?_
    refine Rg.off 15 rfl rfl (by kernel_rfl) rfl rfl rfl rfl ?_
    refine Rg.pu 16 rfl rfl (by kernel_rfl) trivial (by first | exact pu_pick_t rfl rfl | exact pu_pick_f rfl rfl) ?_
    refine Rg.pu 17 rfl rfl (by kernel_rfl) trivial (pu_assign rfl) ?_
    refine Rg.end (by kernel_rfl) ?_
    refine Gs.then_n ?_
    refine Gs.ret ?_
    refine Gs.takes (As := [two S U]) (by repeat constructor) (Gs.two ?_)
    refine Gs.takes (As := [cl y 72 [.map (some nl), .map (some nw)], mp strV slV nl L2, mp keyV slV nw W2, U]) (by repeat constructor) (Gs.ixc hL2 hW2 ?_)
    refine Gs.takes (As := [cl x 72 [.map (some ml), .map (some mw)], mp strV slV ml L1, mp keyV slV mw W1, S]) (by repeat constructor) (Gs.ixc hL1 hW1 ?_)
    exact Gs.fin1 Tryz.results24 rfl _ (⟨by unfold sameB; rw [hk1, hk2]; first | (rw [decide_eq_true hk]; rfl) | (rw [decide_eq_false hk]; rfl), rfl⟩) (by repeat constructor)
end Go.Proofs.YtmbikfojljnnkaaGreatDoor
