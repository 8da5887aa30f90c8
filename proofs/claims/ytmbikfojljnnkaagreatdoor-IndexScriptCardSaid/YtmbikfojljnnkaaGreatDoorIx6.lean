/- Walks: grapevineref1 (runes, letter, Norm, Of). -/
import Derived.Test.YtmbikfojljnnkaaGreatDoorIxC
import Derived.Laws.Cover4
import Derived.Laws.IdiomStrings
namespace Go.Sl
open Go
abbrev runeC (r : Int) : List Value := [.int .i32 r]
section
variable {P : Program} {w0 : World} {env : Env} {H : List HProp} {d : Option Tmp} {x : Operand} {src dst e ty : TypeId} {pos : String} {af : Array Edge} {g : Option (Nat × Bool)}
theorem ac_s2r {s : ByteArray} {rs : List Int} (hs : P.underlying src = some .string) (hd : P.underlying dst = some (.slice e)) (he : P.underlying e = some (.int .i32)) (hx : ev env x = some (.string s))
    (hr : Conv.runesFrom s s.size 0 #[] = (rs.map fun r => Value.int .i32 r).toArray) (hl : rs.length ≤ 70368744177664) :
    Ac P ⟨d, .convert src dst x, ty, pos, af, g⟩ w0 env H (fun v H' => ∃ b c, v = .slice (some ⟨b, 0, none⟩) rs.length c ∧ H' = sl e 1 runeC (some ⟨b, 0, none⟩) c rs :: H) := Ac.of_run fun ρ w r s' => by
  have hrun := run_runes_of_string w src dst e s hs hd he (by rw [hr]; simpa using hl)
  rw [hr] at hrun
  have hge := grownCap_ge w rs.length 0 e
  simp only [List.size_toArray, List.length_map] at hrun
  refine ⟨_, _, _, run_v (s := convert src dst (ρ x)) (by rw [r.eval hx]; exact hrun), ⟨w.heap.size, _, rfl, rfl⟩, ?_⟩
  have sat1 : Sat w0 w.drew H := s'.drew
  refine (sat1.alloc _).ent (sl_new hge (by simp; omega) fun i y hi j v hv => ?_)
  have hlt := (List.getElem?_eq_some_iff.1 hi).1
  cases j with
  | zero =>
    simp only [runeC, List.getElem?_cons_zero, Option.some.injEq] at hv
    rw [Array.getElem?_append_left (by simp; omega)]
    simp [hi, hv]
  | succ j => simp [runeC] at hv
theorem rd_r2s {a : Option Addr} {n c : Nat} {rs : List Int} (hs : P.underlying src = some (.slice e)) (he : P.underlying e = some (.int .i32)) (hd : P.underlying dst = some .string) (hx : ev env x = some (.slice a n c)) (hn : n = rs.length) (S : SlH w0 H 1 runeC a rs) :
    Rd P ⟨d, .convert src dst x, ty, pos, af, g⟩ w0 env H (.string (runesBytes rs)) := fun ρ w r s => by
  subst hn
  refine run_v (s := convert src dst (ρ x)) ?_
  rw [r.eval hx, run_convert_runes_string w src dst e _ _ _ hs he hd]
  by_cases hne : rs = []
  · subst hne
    cases a with
    | none => rfl
    | some a => exact run_runesToString w a 0 c [] rfl
  · obtain ⟨b, off, rfl, h⟩ := S w s hne
    refine run_runesToString w ⟨b, off, none⟩ rs.length c rs ?_
    have h2 := loadCells_run (P := P) (w := w) (b := b) (o := off) (rs.map fun r => Value.int .i32 r) 0 #[] (fun j v hv => by
      rw [List.getElem?_map] at hv
      obtain ⟨y, hy, rfl⟩ := Option.map_eq_some_iff.1 hv
      have := h j y hy 0 (.int .i32 y) rfl
      simpa using this)
    rw [List.length_map] at h2
    unfold loadCells
    rw [h2]; simp
end
end Go.Sl
namespace Go.Ix
open Go Go.Lib
theorem encode_eq (v : Int) : (Utf8.encode v).data.toList = encodeRune v := by
  have hb : ∀ (n : Nat) (z : Int), z.toNat = n → (UInt8.ofNat n : UInt8) = z.toNat.toUInt8 := fun n z h => by rw [h]
  unfold encodeRune encodeRuneZ Utf8.encode
  by_cases hv : Utf8.valid v = true
  · simp only [hv, if_true]
    unfold Utf8.valid at hv
    simp at hv
    by_cases h1 : v.toNat < 128
    · have c1 : 0 ≤ v ∧ v ≤ 127 := by omega
      rw [if_pos h1, if_pos c1]; rfl
    · have c1 : ¬ (0 ≤ v ∧ v ≤ 127) := by omega
      rw [if_neg h1, if_neg c1]
      by_cases h2 : v.toNat < 2048
      · have c2 : 128 ≤ v ∧ v ≤ 2047 := by omega
        rw [if_pos h2, if_pos c2, hb _ (192 + v / 64) (by omega), hb _ (128 + v % 64) (by omega)]; rfl
      · have c2 : ¬ (128 ≤ v ∧ v ≤ 2047) := by omega
        rw [if_neg h2, if_neg c2]
        by_cases h3 : v.toNat < 65536
        · have c3 : (2048 ≤ v ∧ v < 55296) ∨ (57343 < v ∧ v ≤ 65535) := by omega
          rw [if_pos h3, if_pos c3, hb _ (224 + v / 4096) (by omega), hb _ (128 + v / 64 % 64) (by omega), hb _ (128 + v % 64) (by omega)]; rfl
        · have c3 : ¬ ((2048 ≤ v ∧ v < 55296) ∨ (57343 < v ∧ v ≤ 65535)) := by omega
          have c4 : 65536 ≤ v ∧ v ≤ 1114111 := by omega
          rw [if_neg h3, if_neg c3, if_pos c4, hb _ (240 + v / 262144) (by omega), hb _ (128 + v / 4096 % 64) (by omega), hb _ (128 + v / 64 % 64) (by omega), hb _ (128 + v % 64) (by omega)]; rfl
  · have hv' : Utf8.valid v = false := by simpa using hv
    simp only [hv', Bool.false_eq_true, if_false]
    unfold Utf8.valid at hv'
    simp at hv'
    have c1 : ¬ (0 ≤ v ∧ v ≤ 127) := by omega
    have c2 : ¬ (128 ≤ v ∧ v ≤ 2047) := by omega
    have c3 : ¬ ((2048 ≤ v ∧ v < 55296) ∨ (57343 < v ∧ v ≤ 65535)) := by omega
    have c4 : ¬ (65536 ≤ v ∧ v ≤ 1114111) := by omega
    rw [if_neg c1, if_neg c2, if_neg c3, if_neg c4]
    decide
theorem runesBytes_flat : ∀ (rs : List Int), (runesBytes rs).data.toList = rs.flatMap encodeRune := by
  have h : ∀ (rs : List Int) (s : ByteArray), (rs.foldl (fun r n => r ++ Utf8.encode n) s).data.toList = s.data.toList ++ rs.flatMap encodeRune := by
    intro rs
    induction rs with
    | nil => intro s; simp
    | cons r rs ih => intro s; rw [List.foldl_cons, ih, List.flatMap_cons, ← encode_eq]; simp
  intro rs
  unfold runesBytes
  rw [h]; rfl
theorem bytes_ext {s t : ByteArray} (h : s.data.toList = t.data.toList) : s = t := by
  cases s; cases t; exact congrArg _ (Array.toList_inj.1 h)
theorem runesBytes_str {c : List Chk} (h : ∀ p ∈ c, Chunk p) : runesBytes (c.map fun p => (p.1 : Int)) = strC' c := by
  apply bytes_ext
  rw [runesBytes_flat, str_data, List.flatMap_map]
  induction c with
  | nil => rfl
  | cons p c ih =>
    have e := ih fun q hq => h q (List.mem_cons_of_mem _ hq)
    rw [List.flatMap_cons, e, enc_chunk (h p List.mem_cons_self)]
    rfl
end Go.Ix
namespace Go.Proofs.YtmbikfojljnnkaaGreatDoor
open Go Go.Sl Go.Gv Go.Kv Go.Po Go.Ix
set_option maxRecDepth 100000
abbrev encC_21 : Int → List Value := runeC
theorem ek_21 : EncOk 1 runeC := ⟨fun _ => rfl, fun x v hv => by
  simp only [runeC, List.mem_cons, List.not_mem_nil, or_false] at hv
  rcases hv with rfl; rfl⟩
theorem runesBytes_low (c : List Chk) : runesBytes (c.map fun p => Lib.toLowerU (p.1 : Int)) = lowC c := by
  apply bytes_ext
  rw [runesBytes_flat, List.flatMap_map]; simp [lowC]
/-- The runes of a text. -/
abbrev ints (c : List Chk) : List Int := c.map fun p => (p.1 : Int)
theorem runes1_spec {h0 : Hp} (T : TabX h0) {c : List Chk} (hc : ∀ p ∈ c, Chunk p) (hl : c.length ≤ 1000) (hb : (strC' c).size ≤ 100000) :
    Ct Tryz.prog 48 [.string (strC' c)] [ro h0] (fun v hs => ∃ b k, v = .slice (some ⟨b, 0, none⟩) c.length k ∧ hs = [ro h0, sl 21 1 runeC (some ⟨b, 0, none⟩) k (ints c)]) := by
  have hr : Conv.runesFrom (strC' c) (strC' c).size 0 #[] = ((ints c).map fun r => Value.int .i32 r).toArray := by
    have := runes_str c [] (strC' c).size #[] hc (by rw [str_size]; exact flat_len hc)
    rw [List.nil_append] at this
    refine this.trans ?_
    simp [ints, Function.comp_def]
  have hil : (ints c).length = c.length := by simp
  refine Ct.intro Tryz.func48 rfl (by kernel_rfl) 8 Tryz.ntmps48 (Nat.le_of_ble_eq_true rfl) fun w0 R => ?_
  refine Gs.seq ?_
  refine Gs.reg ?_
  refine Go.Sl.L.pu rfl rfl trivial (pu_assign rfl) ?_
  refine Go.Sl.L.nil ?_
  refine Gs.then_n ?_
  refine Gs.seq ?_
  refine Gs.seq ?_
  refine Gs.reg ?_
  refine Go.Sl.L.pu rfl rfl trivial (pu_move rfl) ?_
  refine Go.Sl.L.ac rfl rfl trivial (as_call (valid_spec T.1 (strC' c) (by omega)) (by repeat constructor) (by repeat constructor)) ?_
  rintro _ _ ⟨_, ⟨rfl, rfl⟩, rfl⟩
  rw [valid_strC hc]
  refine Go.Sl.L.pu rfl rfl trivial (pu_not rfl) ?_
  refine Go.Sl.L.nil ?_
  refine Gs.then_n ?_
  refine Gs.cond_ff rfl rfl ?_
  refine Gs.skip ?_
  refine Gs.then_n ?_
  refine Gs.seq ?_
  refine Gs.reg ?_
  refine Go.Sl.L.pu rfl rfl trivial (pu_move rfl) ?_
  refine Go.Sl.L.ac rfl rfl trivial (ac_s2r (rs := ints c) Tryz.underlying9 Tryz.underlying92 Tryz.underlying21 rfl hr (by rw [hil]; omega)) ?_
  rintro _ _ ⟨b, k, rfl, rfl⟩
  refine Go.Sl.L.pu rfl rfl trivial (pu_assign rfl) ?_
  refine Go.Sl.L.nil ?_
  refine Gs.then_n ?_
  refine Gs.ret ?_
  exact Gs.fin1 Tryz.results48 rfl _ (⟨b, k, by rw [hil], rfl⟩) (by repeat constructor)
theorem letter1_spec {h0 : Hp} (T : TabX h0) (r : Int) (hlo : -2147483648 ≤ r) (hhi : r ≤ 2147483647) : Ct Tryz.prog 49 [.int .i32 r] [ro h0] (fun v hs => v = .bool (letB r) ∧ hs = [ro h0]) := by
  refine Ct.intro Tryz.func49 rfl (by kernel_rfl) 9 Tryz.ntmps49 (Nat.le_of_ble_eq_true rfl) fun w0 R => ?_
  refine Gs.seq ?_
  refine Gs.reg ?_
  refine Go.Sl.L.pu rfl rfl trivial (pu_assign rfl) ?_
  refine Go.Sl.L.nil ?_
  refine Gs.then_n ?_
  refine Gs.seq ?_
  refine Gs.reg ?_
  refine Go.Sl.L.pu rfl rfl trivial (pu_move rfl) ?_
  refine Go.Sl.L.ac rfl rfl trivial (as_call (isLetter_ct T r hlo hhi) (by repeat constructor) (by repeat constructor)) ?_
  rintro _ _ ⟨_, ⟨rfl, rfl⟩, rfl⟩
  refine Go.Sl.L.puB rfl rfl trivial (pu_move rfl) (fun hg2 => ?_) (fun hg2 => ?_)
  · skip
    refine Go.Sl.L.off rfl rfl rfl rfl rfl rfl ?_
    refine Go.Sl.L.off rfl rfl rfl rfl rfl rfl ?_
    refine Go.Sl.L.pu rfl rfl trivial (by first | exact pu_pick_t rfl rfl | exact pu_pick_f rfl rfl) ?_
    refine Go.Sl.L.pu rfl rfl trivial (pu_assign rfl) ?_
    refine Go.Sl.L.nil ?_
    refine Gs.then_n ?_
    refine Gs.ret ?_
    exact Gs.fin1 Tryz.results49 rfl _ (⟨by simp [letB, hg2], rfl⟩) (by repeat constructor)
  · skip
    refine Go.Sl.L.pu rfl rfl ⟨_, rfl, rfl⟩ (pu_move rfl) ?_
    refine Go.Sl.L.ac rfl rfl ⟨_, rfl, rfl⟩ (as_call (isDigit_ct T r hlo hhi) (by repeat constructor) (by repeat constructor)) ?_
    rintro _ _ ⟨_, ⟨rfl, rfl⟩, rfl⟩
    refine Go.Sl.L.pu rfl rfl trivial (by first | exact pu_pick_t rfl rfl | exact pu_pick_f rfl rfl) ?_
    refine Go.Sl.L.pu rfl rfl trivial (pu_assign rfl) ?_
    refine Go.Sl.L.nil ?_
    refine Gs.then_n ?_
    refine Gs.ret ?_
    exact Gs.fin1 Tryz.results49 rfl _ (⟨by simp [letB, hg2], rfl⟩) (by repeat constructor)
theorem lower_ct {h0 : Hp} (T : TabX h0) (r : Int) : Ct Tryz.prog 90 [.int .i32 r] [ro h0] (fun v hs => v = .int .i32 (Lib.toLowerU r) ∧ hs = [ro h0]) :=
  ⟨enters_of Tryz.func90 (by kernel_rfl) rfl _, fun w0 w R s => (lower_c r w (T.2 w (Sat.ro s)).2.2.2).mono fun e w' ⟨he, k, hw⟩ => by
    subst hw
    exact ⟨_, _, he, ⟨rfl, rfl⟩, s.same rfl rfl rfl (Nat.le_refl _) fun _ _ => rfl⟩⟩
theorem norm1_spec {h0 : Hp} (T : TabX h0) {c : List Chk} (hc : ∀ p ∈ c, Chunk p) (hl : c.length ≤ 1000) (hb : (strC' c).size ≤ 100000) :
    Ct Tryz.prog 50 [.string (strC' c)] [ro h0] (fun v hs => v = .string (lowC c) ∧ hs = [ro h0]) := by
  refine Ct.intro Tryz.func50 rfl (by kernel_rfl) 23 Tryz.ntmps50 (Nat.le_of_ble_eq_true rfl) fun w0 R => ?_
  refine Gs.seq ?_
  refine Gs.reg ?_
  refine Go.Sl.L.pu rfl rfl trivial (pu_assign rfl) ?_
  refine Go.Sl.L.nil ?_
  refine Gs.then_n ?_
  refine Gs.seq ?_
  refine Gs.reg ?_
  refine Go.Sl.L.pu rfl rfl trivial (pu_move rfl) ?_
  refine Go.Sl.L.ac rfl rfl trivial (as_call (runes1_spec T hc hl hb) (by repeat constructor) (by repeat constructor)) ?_
  rintro _ _ ⟨_, ⟨b, k, rfl, rfl⟩, rfl⟩
  refine Go.Sl.L.pu rfl rfl trivial (pu_assign rfl) ?_
  refine Go.Sl.L.nil ?_
  refine Gs.then_n ?_
  refine Gs.seq ?_
  refine Gs.seq ?_
  refine Gs.reg ?_
  refine Go.Sl.L.pu rfl rfl trivial (pu_assign rfl) ?_
  refine Go.Sl.L.nil ?_
  refine Gs.then_n ?_
  refine Gs.block ?_
  refine Gs.loop1 (fun i : Nat => i ≤ c.length) (fun i => [(3, .slice (some ⟨b, 0, none⟩) c.length k), (4, int i)]) (fun i => [ro h0, sl 21 1 runeC (some ⟨b, 0, none⟩) k ((c.take i).map (fun p => Lib.toLowerU (p.1 : Int)) ++ ints (c.drop i))] ++ R) (fun i => c.length - i) 0 (Nat.zero_le _) (by repeat constructor) (by repeat constructor) (fun i hi => ?_)
  refine Gs.seq ?_
  refine Gs.seq ?_
  refine Gs.reg ?_
  refine Go.Sl.L.pu rfl rfl trivial (pu_move rfl) ?_
  refine Go.Sl.L.pu rfl rfl trivial (pu_move rfl) ?_
  refine Go.Sl.L.pu rfl rfl trivial (pu_len Tryz.underlying92 rfl) ?_
  refine Go.Sl.L.pu rfl rfl trivial (pu_lt rfl rfl) ?_
  refine Go.Sl.L.nil ?_
  refine Gs.then_n ?_
  refine Gs.cond rfl (fun hc0 => ?_) (fun hc0 => ?_)
  · skip
    have hlt : i < c.length := by have := of_decide_eq_true hc0; omega
    obtain ⟨p, hp⟩ : ∃ z, c[i]? = some z := ⟨c[i], by simp [hlt]⟩
    have hat : ((c.take i).map (fun p => Lib.toLowerU (p.1 : Int)) ++ ints (c.drop i))[i]? = some (p.1 : Int) := by
      rw [List.getElem?_append_right (by simp; omega)]
      simp only [List.length_map, List.length_take, Nat.min_eq_left hi, Nat.sub_self, ints, List.getElem?_map, List.getElem?_drop, Nat.add_zero, hp, Option.map_some]
    have hset : ((c.take i).map (fun p => Lib.toLowerU (p.1 : Int)) ++ ints (c.drop i)).set i (Lib.toLowerU (p.1 : Int)) = (c.take (i + 1)).map (fun p => Lib.toLowerU (p.1 : Int)) ++ ints (c.drop (i + 1)) := by
      have e1 : c.drop i = p :: c.drop (i + 1) := by rw [List.drop_eq_getElem_cons hlt, (List.getElem?_eq_some_iff.1 hp).2]
      rw [List.set_append_right _ _ (by simp; omega), e1, List.take_add_one, hp]
      simp [Nat.min_eq_left hi]
    refine Gs.skip ?_
    refine Gs.then_n ?_
    refine Gs.seq ?_
    refine Gs.block ?_
    refine Gs.reg ?_
    refine Go.Sl.L.pu rfl rfl trivial (pu_move rfl) ?_
    refine Go.Sl.L.pu rfl rfl trivial (pu_move rfl) ?_
    refine Go.Sl.L.pu rfl rfl trivial (pu_move rfl) ?_
    refine Go.Sl.L.pu rfl rfl trivial (pu_move rfl) ?_
    refine Go.Sl.L.pu rfl rfl trivial (pu_ia se_92 rfl rfl (by omega) (by omega)) ?_
    refine Go.Sl.L.rd rfl rfl trivial (rd_ld na_21 rfl (Rdc.el0 (SlH.own (xs := (c.take i).map (fun p => Lib.toLowerU (p.1 : Int)) ++ ints (c.drop i)) (E := 21) (enc := runeC) (sz := 1) (by repeat constructor)) hat rfl rfl)) ?_
    refine Go.Sl.L.ac rfl rfl trivial (as_call (lower_ct T (p.1 : Int)) (by repeat constructor) (by repeat constructor)) ?_
    rintro _ _ ⟨_, ⟨rfl, rfl⟩, rfl⟩
    refine Go.Sl.L.pu rfl rfl trivial (pu_ia se_92 rfl rfl (by omega) (by omega)) ?_
    refine Go.Sl.L.ac0 rfl trivial (ac_stE (enc := runeC) (xs := (c.take i).map (fun p => Lib.toLowerU (p.1 : Int)) ++ ints (c.drop i)) (i := i) (x0 := (p.1 : Int)) (y0 := Lib.toLowerU (p.1 : Int)) (vs := runeC (Lib.toLowerU (p.1 : Int))) (fo := 0) sz_21 ek_21 rfl rfl (by repeat constructor) rfl rfl rfl hat rfl rfl) ?_
    rintro _ _ rfl
    refine Go.Sl.L.nil ?_
    rw [hset]
    refine Gs.blk_n ?_
    refine Gs.then_n ?_
    refine Gs.reg ?_
    refine Go.Sl.L.pu rfl rfl trivial (pu_move rfl) ?_
    refine Go.Sl.L.pu rfl rfl trivial (by first | exact pu_addI rfl rfl rfl (by omega) (by omega) | exact pu_add rfl rfl) ?_
    refine Go.Sl.L.pu rfl rfl trivial (pu_assign rfl) ?_
    refine Go.Sl.L.nil ?_
    refine Gs.then_n ?_
    exact Gs.again1 (i + 1) hlt (by omega) (by repeat constructor) (by repeat constructor)
  · skip
    have hge : i = c.length := by have := of_decide_eq_false hc0; omega
    refine Gs.exit ?_
    refine Gs.then_x ?_
    refine Gs.then_x ?_
    refine Gs.blk_hit ?_
    refine Gs.then_n ?_
    refine Gs.seq ?_
    refine Gs.reg ?_
    refine Go.Sl.L.pu rfl rfl trivial (pu_move rfl) ?_
    refine Go.Sl.L.rd rfl rfl trivial (rd_r2s (rs := c.map fun p => Lib.toLowerU (p.1 : Int)) Tryz.underlying92 Tryz.underlying21 Tryz.underlying9 rfl (by simp) (by
    have e : (c.take i).map (fun p => Lib.toLowerU (p.1 : Int)) ++ ints (c.drop i) = c.map fun p => Lib.toLowerU (p.1 : Int) := by rw [hge, List.take_length, List.drop_length]; simp
    rw [← e]; exact SlH.own (E := 21) (c := k) (by repeat constructor))) ?_
    refine Go.Sl.L.pu rfl rfl trivial (pu_assign rfl) ?_
    refine Go.Sl.L.nil ?_
    rw [runesBytes_low]
    refine Gs.then_n ?_
    refine Gs.ret ?_
    exact Gs.fin1 Tryz.results50 rfl _ (⟨rfl, rfl⟩) (by repeat constructor)
end Go.Proofs.YtmbikfojljnnkaaGreatDoor
