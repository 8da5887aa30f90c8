/- Walk: ledger.read. -/
import Derived.Test.YtjaafkakeccniaaGreatDoorLgb
import Derived.Test.YtjaafkakeccniaaGreatDoorMV
namespace Go.Proofs.YtjaafkakeccniaaGreatDoor
open Go Go.Sl Go.Gv Go.Dv Go.Bst
set_option maxRecDepth 100000
theorem readS_all (n : Int) : ∀ (f : Nat) (first : Bool) (x : List UInt8), (∀ e ∈ (readS n f first x).1, mayE e n = true) ∧ (readS n f first x).2 ≤ x.length ∧ (readS n f first x).1.length ≤ x.length
  | 0, _, _ => ⟨(fun e h => by cases h), Nat.zero_le _, Nat.zero_le _⟩
  | f + 1, first, x => by
    rw [readS]
    cases hx : nextB x with
    | none => exact ⟨(fun e h => by cases h), Nat.zero_le _, Nat.zero_le _⟩
    | some y =>
      obtain ⟨k, b, len⟩ := y
      dsimp only
      split
      · exact ⟨(fun e h => by cases h), Nat.zero_le _, Nat.zero_le _⟩
      · cases readEn k b with
        | none => exact ⟨(fun e h => by cases h), Nat.zero_le _, Nat.zero_le _⟩
        | some e =>
          dsimp only
          by_cases hm : mayE e n = true
          · rw [if_pos hm]
            have ih := readS_all n f false (x.drop len)
            have hl := next_len hx
            have hd := ih.2.1
            have hd2 := ih.2.2
            rw [List.length_drop] at hd hd2
            refine ⟨fun a ha => ?_, by show len + _ ≤ _; omega, by rw [List.length_cons]; omega⟩
            rcases List.mem_cons.1 ha with rfl | ha
            · exact hm
            · exact ih.1 a ha
          · rw [if_neg hm]; exact ⟨(fun e h => by cases h), Nat.zero_le _, Nat.zero_le _⟩
theorem noteAll_len (p : Pa) (es : List EntP) : (noteAll p es).t.length = p.t.length ∧ (noteAll p es).z = p.z ∧ (noteAll p es).n = p.n := by
  induction es generalizing p with
  | nil => exact ⟨rfl, rfl, rfl⟩
  | cons e es ih =>
    have := ih (noteP p e 0)
    refine ⟨this.1.trans (noteT_len _ _), this.2.1, this.2.2⟩
theorem noteAll_take {p : Pa} {es : List EntP} {i : Nat} {e : EntP} (h : es[i]? = some e) : noteAll p (es.take (i + 1)) = noteP (noteAll p (es.take i)) e 0 := by
  rw [List.take_add_one, h]; exact noteAll_snoc ..
theorem rec_in {e : EntP} {n : Int} (h : mayE e n = true) (hk : e.kind = 2) : 0 ≤ e.r.o ∧ e.r.o < n := by
  rw [may_rec hk] at h
  simp only [Bool.and_eq_true, decide_eq_true_eq] at h
  refine ⟨?_, h.1.2⟩
  have hr := h.2
  simp only [recB, keyB, Rec.key, Bool.and_eq_true, decide_eq_true_eq] at hr
  exact of_decide_eq_true hr.1.1.1.1.1
theorem lgRead_spec {b d : Nat} {n : Int} {made : Nat} {ps : List Pa} {D : List Fl} {most : Int} {Tx : HProp} (hT : RMs Tx) (h1 : 1 ≤ n) (h8 : n ≤ 8) (hps : ps.length ≤ 900) (nm : ByteArray) :
    Ct Tryz.prog 32 [ptr b, .string nm] [lgr b d n ⟨made, ps⟩, drv d most D, Tx]
      (fun v hs => ∃ a c es ok, v = .tuple #[.slice a es.length c, .bool ok] ∧ plainV es = (readF n D nm).es ∧ hs = [lgr b d n ⟨made, ps ++ (readF n D nm).ps⟩, drv d most (readF n D nm).D, Tx, elO a c es]) := by
  obtain ⟨bs, hbs⟩ : ∃ bs, bs = readL D nm := ⟨_, rfl⟩
  have hbF : bytesF D nm = bs := by rw [hbs]; rfl
  have hall := readS_all n bs.length true bs
  refine Ct.intro Tryz.func32 rfl (by kernel_rfl) 65 Tryz.ntmps32 (Nat.le_of_ble_eq_true rfl) fun w0 R => ?_
  refine Gs.drvOk (by repeat constructor) fun hok => ?_
  have hbl : bs.length ≤ 1048576 := by
    rw [hbs]; unfold readL
    cases hf : lookF D nm with
    | none => simp
    | some f =>
      obtain ⟨X, Y, e1, -, -, -⟩ := lookF_split hok.nd hf
      have h2 := used_mem (D := D) (f := f) (by rw [e1]; simp)
      have h3 := hok.room
      have h4 := hok.hi
      dsimp only; omega
  refine Gs.lgOpen (by repeat constructor) fun pa pc P hP => ?_
  refine Gs.seq ?_
  refine Gs.reg ?_
  refine Go.Sl.L.pu rfl rfl trivial (pu_assign rfl) ?_
  refine Go.Sl.L.pu rfl rfl trivial (pu_assign rfl) ?_
  refine Go.Sl.L.nil ?_
  refine Gs.then_n ?_
  refine Gs.seq ?_
  refine Gs.reg ?_
  refine Go.Sl.L.pu rfl rfl trivial (pu_move rfl) ?_
  refine Go.Sl.L.pu rfl rfl trivial (by first | exact pu_nil rfl | exact pu_nilF rfl) ?_
  refine Go.Sl.L.pu rfl rfl trivial (pu_fa fa_65_0 rfl) ?_
  refine Go.Sl.L.rd rfl rfl trivial (rd_ld na_26 rfl (Rdc.cl1 (by repeat constructor) rfl)) ?_
  refine Go.Sl.L.pu rfl rfl trivial (pu_move rfl) ?_
  refine Go.Sl.L.ac rfl rfl trivial (as_call (read_spec d most D nm) (by repeat constructor) (by repeat constructor)) ?_
  rintro _ _ ⟨_, ⟨ba, bc, rfl, rfl⟩, rfl⟩
  rw [← hbs]
  refine Go.Sl.L.pu rfl rfl trivial (pu_move rfl) ?_
  refine Go.Sl.L.pu rfl rfl trivial (pu_extract rfl rfl) ?_
  refine Go.Sl.L.pu rfl rfl trivial (pu_extract rfl rfl) ?_
  refine Go.Sl.L.pu rfl rfl trivial (pu_assign rfl) ?_
  refine Go.Sl.L.pu rfl rfl trivial (pu_assign rfl) ?_
  refine Go.Sl.L.nil ?_
  refine Gs.then_n ?_
  refine Gs.seq ?_
  refine Gs.slLen (E := 5) (sz := 1) (enc := byteC) (a := ba) (c := bc) (xs := bs) (by repeat constructor) fun hbc => ?_
  refine Gs.reg ?_
  refine Go.Sl.L.pu rfl rfl trivial (pu_move rfl) ?_
  refine Go.Sl.L.pu rfl rfl trivial (pu_move rfl) ?_
  refine Go.Sl.L.pu rfl rfl trivial (by first | exact pu_nil rfl | exact pu_nilF rfl) ?_
  refine Go.Sl.L.pu rfl rfl trivial (pu_fa fa_65_1 rfl) ?_
  refine Go.Sl.L.rd rfl rfl trivial (rd_ld na_3 rfl (Rdc.cl1 (by repeat constructor) rfl)) ?_
  refine Go.Sl.L.ac rfl rfl trivial (as_call (segRead_spec (S := sl 5 1 byteC ba bc bs) Srd.own hT hbl hbc n) (by repeat constructor) (by repeat constructor)) ?_
  rintro _ _ ⟨_, ⟨ea, ec, es, rfl, hes, rfl⟩, rfl⟩
  refine Go.Sl.L.pu rfl rfl trivial (pu_move rfl) ?_
  refine Go.Sl.L.pu rfl rfl trivial (pu_extract rfl rfl) ?_
  refine Go.Sl.L.pu rfl rfl trivial (pu_extract rfl rfl) ?_
  refine Go.Sl.L.pu rfl rfl trivial (pu_assign rfl) ?_
  refine Go.Sl.L.pu rfl rfl trivial (pu_assign rfl) ?_
  refine Go.Sl.L.nil ?_
  have hesl : es.length = (readS n bs.length true bs).1.length := by rw [← hes]; simp
  obtain ⟨sz, hsz⟩ : ∃ z, z = (readS n bs.length true bs).2 := ⟨_, rfl⟩
  have hszl : sz ≤ bs.length := by rw [hsz]; exact hall.2.1
  have hesb : es.length ≤ 1048576 := by have := hall.2.2; omega
  rw [← hsz]
  refine Gs.then_n ?_
  refine Gs.seq ?_
  refine Gs.seq ?_
  refine Gs.reg ?_
  refine Go.Sl.L.pu rfl rfl trivial (pu_move rfl) ?_
  refine Go.Sl.L.pu rfl rfl trivial (pu_len Tryz.underlying22 rfl) ?_
  refine Go.Sl.L.pu rfl rfl trivial (pu_eq rfl rfl) ?_
  refine Go.Sl.L.nil ?_
  refine Gs.then_n ?_
  refine Gs.cond rfl (fun hc0 => ?_) (fun hc0 => ?_)
  · skip
    have he0 : es = [] := List.length_eq_zero_iff.1 (by have := of_decide_eq_true hc0; omega)
    have hr0 : (readS n bs.length true bs).1 = [] := by rw [← hes, he0]; rfl
    have hrF : readF n D nm = ⟨[], del D nm, []⟩ := by unfold readF; dsimp only; rw [hbF, if_pos hr0]
    refine Gs.seq ?_
    refine Gs.reg ?_
    refine Go.Sl.L.pu rfl rfl trivial (pu_move rfl) ?_
    refine Go.Sl.L.pu rfl rfl trivial (by first | exact pu_nil rfl | exact pu_nilF rfl) ?_
    refine Go.Sl.L.pu rfl rfl trivial (pu_fa fa_65_0 rfl) ?_
    refine Go.Sl.L.rd rfl rfl trivial (rd_ld na_26 rfl (Rdc.cl1 (by repeat constructor) rfl)) ?_
    refine Go.Sl.L.pu rfl rfl trivial (pu_move rfl) ?_
    refine Go.Sl.L.ac rfl rfl trivial (as_call (remove_spec d most D nm) (by repeat constructor) (by repeat constructor)) ?_
    rintro _ _ ⟨_, ⟨rfl, rfl⟩, rfl⟩
    refine Go.Sl.L.nil ?_
    refine Gs.then_n ?_
    refine Gs.seq ?_
    refine Gs.reg ?_
    refine Go.Sl.L.pu rfl rfl trivial (pu_assign rfl) ?_
    refine Go.Sl.L.pu rfl rfl trivial (pu_assign rfl) ?_
    refine Go.Sl.L.nil ?_
    refine Gs.then_n ?_
    refine Gs.ret ?_
    refine Gs.then_r ?_
    refine Gs.lgClose (made := made) (ps := ps) (P := P) (a := pa) (c := pc) (by repeat constructor) rfl hP ?_
    refine Gs.slNil 43 8 entC (Gs.takes (As := [sl 43 8 entC none 0 []]) (by repeat constructor) ?_)
    refine Gs.bigNil (Gs.takes (As := [sl 43 8 entC none 0 [], big []]) (by repeat constructor) (Gs.toTwo ?_))
    refine (show Gs _ _ _ (elO none 0 [] :: _) _ from ?_)
    exact Gs.fin2 Tryz.results32 rfl rfl _ (⟨none, 0, [], false, rfl, by rw [hrF]; rfl, by rw [hrF, List.append_nil]⟩) (by repeat constructor)
  · skip
    have hne : (readS n bs.length true bs).1 ≠ [] := fun e => by have := of_decide_eq_false hc0; rw [e] at hesl; simp at hesl; rw [hesl] at this; exact this rfl
    have hrF : readF n D nm = ⟨plainV es, if sz < bs.length then cutL D nm sz else D, [noteAll ⟨nm, sz, zeros n⟩ (plainV es)]⟩ := by unfold readF; dsimp only; rw [hbF, if_neg hne, ← hsz, hes]
    refine Gs.skip ?_
    refine Gs.then_n ?_
    refine Gs.seq ?_
    refine Gs.seq ?_
    refine Gs.reg ?_
    refine Go.Sl.L.pu rfl rfl trivial (pu_move rfl) ?_
    refine Go.Sl.L.pu rfl rfl trivial (pu_move rfl) ?_
    refine Go.Sl.L.pu rfl rfl trivial (pu_len Tryz.underlying75 rfl) ?_
    refine Go.Sl.L.pu rfl rfl trivial (pu_lt rfl rfl) ?_
    refine Go.Sl.L.nil ?_
    refine Gs.then_n ?_
    refine Gs.cond rfl (fun hc1 => ?_) (fun hc1 => ?_)
    · skip
      have hlt : sz < bs.length := by have := of_decide_eq_true hc1; omega
      have hrD : (readF n D nm).D = cutL D nm sz := by rw [hrF]; exact if_pos hlt
      refine Gs.reg ?_
      refine Go.Sl.L.pu rfl rfl trivial (pu_move rfl) ?_
      refine Go.Sl.L.pu rfl rfl trivial (by first | exact pu_nil rfl | exact pu_nilF rfl) ?_
      refine Go.Sl.L.pu rfl rfl trivial (pu_fa fa_65_0 rfl) ?_
      refine Go.Sl.L.rd rfl rfl trivial (rd_ld na_26 rfl (Rdc.cl1 (by repeat constructor) rfl)) ?_
      refine Go.Sl.L.pu rfl rfl trivial (pu_move rfl) ?_
      refine Go.Sl.L.pu rfl rfl trivial (pu_move rfl) ?_
      refine Go.Sl.L.ac rfl rfl trivial (as_call (cut_spec d most D nm (sz : Nat)) (by repeat constructor) (by repeat constructor)) ?_
      rintro _ _ ⟨_, ⟨rfl, rfl⟩, rfl⟩
      rw [← hrD]
      refine Go.Sl.L.nil ?_
      refine Gs.then_n ?_
      refine Gs.seq ?_
      refine Gs.lgClose (made := made) (ps := ps) (P := P) (a := pa) (c := pc) (by repeat constructor) rfl hP ?_
      refine Gs.reg ?_
      refine Go.Sl.L.pu rfl rfl trivial (pu_move rfl) ?_
      refine Go.Sl.L.pu rfl rfl trivial (pu_move rfl) ?_
      refine Go.Sl.L.pu rfl rfl trivial (pu_move rfl) ?_
      refine Go.Sl.L.ac rfl rfl trivial (as_call (begin_spec (d := d) (made := made) (ps := ps) (nm := nm) (z := sz) h1 h8 (by omega)) (by repeat constructor) (by repeat constructor)) ?_
      rintro _ _ ⟨_, ⟨rfl, rfl⟩, rfl⟩
      refine Go.Sl.L.nil ?_
      refine Gs.slAddr (xs := es) ((erd_elO ea ec es).1.h (by repeat constructor)) fun eb eo hea => ?_
      refine Gs.then_n ?_
      refine Gs.seq ?_
      refine Gs.seq ?_
      refine Gs.reg ?_
      refine Go.Sl.L.pu rfl rfl trivial (pu_move rfl) ?_
      refine Go.Sl.L.pu rfl rfl trivial (pu_len Tryz.underlying22 rfl) ?_
      refine Go.Sl.L.pu rfl rfl trivial (pu_move rfl) ?_
      refine Go.Sl.L.nil ?_
      refine Gs.then_n ?_
      refine Gs.block ?_
      refine Gs.loop1 (fun i : Nat => i ≤ es.length) (fun i => [(0, ptr b), (8, .slice ea es.length ec), (54, .slice ea es.length ec), (55, int es.length), (56, int i)]) (fun i => [lgr b d n ⟨made, ps ++ [noteAll ⟨nm, sz, zeros n⟩ ((plainV es).take i)]⟩, drv d most (readF n D nm).D, Tx, elO ea ec es] ++ R) (fun i => es.length - i) 0 (Nat.zero_le _) (by repeat constructor) (by repeat constructor) (fun i hi => ?_)
      refine Gs.seq ?_
      refine Gs.reg ?_
      refine Go.Sl.L.pu rfl rfl trivial (pu_lt rfl rfl) ?_
      refine Go.Sl.L.nil ?_
      refine Gs.then_n ?_
      refine Gs.seq ?_
      refine Gs.cond rfl (fun hc2 => ?_) (fun hc2 => ?_)
      · skip
        have hlt : i < es.length := by have := of_decide_eq_true hc2; omega
        obtain ⟨e, he⟩ : ∃ x, es[i]? = some x := ⟨es[i], by simp [hlt]⟩
        obtain rfl := hea (by rintro rfl; simp at hlt)
        have hep : (plainV es)[i]? = some e.p := by simp [he]
        have hem : mayE e.p n = true := hall.1 _ (by rw [← hes]; exact List.mem_of_getElem? hep)
        have hnl := noteAll_len ⟨nm, sz, zeros n⟩ ((plainV es).take i)
        refine Gs.skip ?_
        refine Gs.then_n ?_
        refine Gs.seq ?_
        refine Gs.block ?_
        refine Gs.seq ?_
        refine Gs.reg ?_
        refine Go.Sl.L.pu rfl rfl trivial (pu_ia se_22 rfl rfl (by omega) (by omega)) ?_
        refine Go.Sl.L.rd rfl rfl trivial (rd_lda ag_43 rfl (Rdc.el0 ((erd_elO _ ec es).1.h (by repeat constructor)) he rfl rfl) rfl) ?_
        refine Go.Sl.L.ac rfl rfl trivial (ac_alloc zv_43 rfl) ?_
        rintro _ _ ⟨b11, rfl, rfl⟩
        refine Go.Sl.L.ac0 rfl trivial (ac_st sz_43 rfl rfl (by repeat constructor) rfl rfl rfl rfl) ?_
        rintro _ _ rfl
        refine Go.Sl.L.nil ?_
        refine Gs.then_n ?_
        refine Gs.reg ?_
        refine Go.Sl.L.pu rfl rfl trivial (pu_move rfl) ?_
        refine Go.Sl.L.rd rfl rfl trivial (rd_lda ag_43 rfl (Rdc.cl 8 (by repeat constructor) rfl) rfl) ?_
        refine Go.Sl.L.ac rfl rfl trivial (as_call (note_spec (d := d) (n := n) (made := made) (U := ps) (p := noteAll ⟨nm, sz, zeros n⟩ ((plainV es).take i)) (e := e) (z := 0) (by rw [hnl.2.1]; show sz + 0 ≤ _; omega) (by omega) (fun hk => by rw [hnl.1]; have := rec_in hem hk; refine ⟨this.1, ?_⟩; show e.r.o < ((zeros n).length : Int); unfold zeros; rw [List.length_replicate]; have := this.2; have : e.r.o < n := this; omega)) (by repeat constructor) (by repeat constructor)) ?_
        rintro _ _ ⟨_, ⟨rfl, rfl⟩, rfl⟩
        rw [← noteAll_take hep]
        refine Go.Sl.L.nil ?_
        refine Gs.blk_n ?_
        refine Gs.then_n ?_
        refine Gs.reg ?_
        refine Go.Sl.L.pu rfl rfl trivial (by first | exact pu_addI rfl rfl rfl (by omega) (by omega) | exact pu_add rfl rfl) ?_
        refine Go.Sl.L.pu rfl rfl trivial (pu_move rfl) ?_
        refine Go.Sl.L.nil ?_
        refine Gs.then_n ?_
        exact Gs.again1 (i + 1) (by omega) (by omega) (by repeat constructor) (by repeat constructor)
      · skip
        have hge : i = es.length := by have := of_decide_eq_false hc2; omega
        have hpf : ps ++ [noteAll ⟨nm, sz, zeros n⟩ ((plainV es).take i)] = ps ++ (readF n D nm).ps := by rw [hrF, hge, List.take_of_length_le (by simp)]
        rw [hpf]
        refine Gs.exit ?_
        refine Gs.then_x ?_
        refine Gs.then_x ?_
        refine Gs.blk_hit ?_
        refine Gs.then_n ?_
        refine Gs.seq ?_
        refine Gs.reg ?_
        refine Go.Sl.L.pu rfl rfl trivial (pu_move rfl) ?_
        refine Go.Sl.L.pu rfl rfl trivial (pu_assign rfl) ?_
        refine Go.Sl.L.pu rfl rfl trivial (pu_assign rfl) ?_
        refine Go.Sl.L.nil ?_
        refine Gs.then_n ?_
        refine Gs.ret ?_
        exact Gs.fin2 Tryz.results32 rfl rfl _ (⟨ea, ec, es, true, rfl, by rw [hrF], rfl⟩) (by repeat constructor)
    · skip
      have hge : ¬ sz < bs.length := by have := of_decide_eq_false hc1; omega
      have hrD : (readF n D nm).D = D := by rw [hrF]; exact if_neg hge
      rw [show drv d most D = drv d most (readF n D nm).D by rw [hrD]]
      refine Gs.skip ?_
      refine Gs.then_n ?_
      refine Gs.seq ?_
      refine Gs.lgClose (made := made) (ps := ps) (P := P) (a := pa) (c := pc) (by repeat constructor) rfl hP ?_
      refine Gs.reg ?_
      refine Go.Sl.L.pu rfl rfl trivial (pu_move rfl) ?_
      refine Go.Sl.L.pu rfl rfl trivial (pu_move rfl) ?_
      refine Go.Sl.L.pu rfl rfl trivial (pu_move rfl) ?_
      refine Go.Sl.L.ac rfl rfl trivial (as_call (begin_spec (d := d) (made := made) (ps := ps) (nm := nm) (z := sz) h1 h8 (by omega)) (by repeat constructor) (by repeat constructor)) ?_
      rintro _ _ ⟨_, ⟨rfl, rfl⟩, rfl⟩
      refine Go.Sl.L.nil ?_
      refine Gs.slAddr (xs := es) ((erd_elO ea ec es).1.h (by repeat constructor)) fun eb eo hea => ?_
      refine Gs.then_n ?_
      refine Gs.seq ?_
      refine Gs.seq ?_
      refine Gs.reg ?_
      refine Go.Sl.L.pu rfl rfl trivial (pu_move rfl) ?_
      refine Go.Sl.L.pu rfl rfl trivial (pu_len Tryz.underlying22 rfl) ?_
      refine Go.Sl.L.pu rfl rfl trivial (pu_move rfl) ?_
      refine Go.Sl.L.nil ?_
      refine Gs.then_n ?_
      refine Gs.block ?_
      refine Gs.loop1 (fun i : Nat => i ≤ es.length) (fun i => [(0, ptr b), (8, .slice ea es.length ec), (54, .slice ea es.length ec), (55, int es.length), (56, int i)]) (fun i => [lgr b d n ⟨made, ps ++ [noteAll ⟨nm, sz, zeros n⟩ ((plainV es).take i)]⟩, drv d most (readF n D nm).D, Tx, elO ea ec es] ++ R) (fun i => es.length - i) 0 (Nat.zero_le _) (by repeat constructor) (by repeat constructor) (fun i hi => ?_)
      refine Gs.seq ?_
      refine Gs.reg ?_
      refine Go.Sl.L.pu rfl rfl trivial (pu_lt rfl rfl) ?_
      refine Go.Sl.L.nil ?_
      refine Gs.then_n ?_
      refine Gs.seq ?_
      refine Gs.cond rfl (fun hc2 => ?_) (fun hc2 => ?_)
      · skip
        have hlt : i < es.length := by have := of_decide_eq_true hc2; omega
        obtain ⟨e, he⟩ : ∃ x, es[i]? = some x := ⟨es[i], by simp [hlt]⟩
        obtain rfl := hea (by rintro rfl; simp at hlt)
        have hep : (plainV es)[i]? = some e.p := by simp [he]
        have hem : mayE e.p n = true := hall.1 _ (by rw [← hes]; exact List.mem_of_getElem? hep)
        have hnl := noteAll_len ⟨nm, sz, zeros n⟩ ((plainV es).take i)
        refine Gs.skip ?_
        refine Gs.then_n ?_
        refine Gs.seq ?_
        refine Gs.block ?_
        refine Gs.seq ?_
        refine Gs.reg ?_
        refine Go.Sl.L.pu rfl rfl trivial (pu_ia se_22 rfl rfl (by omega) (by omega)) ?_
        refine Go.Sl.L.rd rfl rfl trivial (rd_lda ag_43 rfl (Rdc.el0 ((erd_elO _ ec es).1.h (by repeat constructor)) he rfl rfl) rfl) ?_
        refine Go.Sl.L.ac rfl rfl trivial (ac_alloc zv_43 rfl) ?_
        rintro _ _ ⟨b11, rfl, rfl⟩
        refine Go.Sl.L.ac0 rfl trivial (ac_st sz_43 rfl rfl (by repeat constructor) rfl rfl rfl rfl) ?_
        rintro _ _ rfl
        refine Go.Sl.L.nil ?_
        refine Gs.then_n ?_
        refine Gs.reg ?_
        refine Go.Sl.L.pu rfl rfl trivial (pu_move rfl) ?_
        refine Go.Sl.L.rd rfl rfl trivial (rd_lda ag_43 rfl (Rdc.cl 8 (by repeat constructor) rfl) rfl) ?_
        refine Go.Sl.L.ac rfl rfl trivial (as_call (note_spec (d := d) (n := n) (made := made) (U := ps) (p := noteAll ⟨nm, sz, zeros n⟩ ((plainV es).take i)) (e := e) (z := 0) (by rw [hnl.2.1]; show sz + 0 ≤ _; omega) (by omega) (fun hk => by rw [hnl.1]; have := rec_in hem hk; refine ⟨this.1, ?_⟩; show e.r.o < ((zeros n).length : Int); unfold zeros; rw [List.length_replicate]; have := this.2; have : e.r.o < n := this; omega)) (by repeat constructor) (by repeat constructor)) ?_
        rintro _ _ ⟨_, ⟨rfl, rfl⟩, rfl⟩
        rw [← noteAll_take hep]
        refine Go.Sl.L.nil ?_
        refine Gs.blk_n ?_
        refine Gs.then_n ?_
        refine Gs.reg ?_
        refine Go.Sl.L.pu rfl rfl trivial (by first | exact pu_addI rfl rfl rfl (by omega) (by omega) | exact pu_add rfl rfl) ?_
        refine Go.Sl.L.pu rfl rfl trivial (pu_move rfl) ?_
        refine Go.Sl.L.nil ?_
        refine Gs.then_n ?_
        exact Gs.again1 (i + 1) (by omega) (by omega) (by repeat constructor) (by repeat constructor)
      · skip
        have hge : i = es.length := by have := of_decide_eq_false hc2; omega
        have hpf : ps ++ [noteAll ⟨nm, sz, zeros n⟩ ((plainV es).take i)] = ps ++ (readF n D nm).ps := by rw [hrF, hge, List.take_of_length_le (by simp)]
        rw [hpf]
        refine Gs.exit ?_
        refine Gs.then_x ?_
        refine Gs.then_x ?_
        refine Gs.blk_hit ?_
        refine Gs.then_n ?_
        refine Gs.seq ?_
        refine Gs.reg ?_
        refine Go.Sl.L.pu rfl rfl trivial (pu_move rfl) ?_
        refine Go.Sl.L.pu rfl rfl trivial (pu_assign rfl) ?_
        refine Go.Sl.L.pu rfl rfl trivial (pu_assign rfl) ?_
        refine Go.Sl.L.nil ?_
        refine Gs.then_n ?_
        refine Gs.ret ?_
        exact Gs.fin2 Tryz.results32 rfl rfl _ (⟨ea, ec, es, true, rfl, by rw [hrF], rfl⟩) (by repeat constructor)
end Go.Proofs.YtjaafkakeccniaaGreatDoor
