/- What the closing leans on: part 6. -/
import Derived.Test.YtflfhpokmidnmaaGreatDoorXe
import Derived.WalkKit
import Derived.BigCall
import Derived.Lib.OthersKept
import Derived.Test.YtflfhpokmidnmaaGreatDoorXd
import Derived.Test.YtflfhpokmidnmaaGreatDoorXc
import Derived.Test.YtflfhpokmidnmaaGreatDoorXb
import Derived.Lib.MapLaws
import Derived.Lib.ValidLaws
import Derived.Laws.Cover4
import Derived.Laws.IdiomStrings
import Derived.Shelf.Strings.FuncGrows
import Derived.Shelf.Strconv.Itoa3
import Derived.Shelf.Strings.OnBuilder
import Derived.Test.YtflfhpokmidnmaaGreatDoorProg
import Derived.Sort.Grow
import Derived.WalkMore
import Derived.Shelf.SlSortCmp.NoneTotal
namespace Go.Proofs
open Go.RowKit Go.Shelf
namespace YtflfhpokmidnmaaGreatDoor
def lowF (s : ByteArray) : Nat → Nat → List UInt8
 | 0, _ => []
 | fuel + 1, pos => if pos < s.size then Lib.encodeRune (Lib.toLowerU (Utf8.decode s pos).1) ++ lowF s fuel (pos + (Utf8.decode s pos).2) else []
def normB (s : ByteArray) : ByteArray := if validS s then ⟨(lowF s s.size 0).toArray⟩ else ⟨#[]⟩
theorem width_pos (s : ByteArray) (pos : Nat) (h : pos < s.size) : 1 ≤ (Utf8.decode s pos).2 := by
 by_cases ha : (s[pos]'h).toNat < 128
 · rw [decode_ascii s pos h ha]
   exact Nat.le_refl _
 · exact (decode_high s pos h (by omega)).2
theorem lowF_end (s : ByteArray) (fuel pos : Nat) (h : ¬ pos < s.size) : lowF s fuel pos = [] := by
 cases fuel with
 | zero => rfl
 | succ f => simp [lowF, h]
theorem bextra : Builder.Extra Tryz.prog Tryz.laysWR_ren where
 sizeBuilder := by kernel_rfl
 liesBuilder := by kernel_rfl
 t5 := Tryz.underlying5
 a5 := Tryz.isAgg5
 z5 := Tryz.sizeOf5
 v5 := Tryz.zeroValue5
 infoByte := by kernel_rfl
 cellsByte := by kernel_rfl
 sizeByte := by kernel_rfl
 neB5 := by decide
theorem bextra2 : Builder.Extra Tryz.prog Tryz.laysBS_ren where
 sizeBuilder := by kernel_rfl
 liesBuilder := by kernel_rfl
 t5 := Tryz.underlying5
 a5 := Tryz.isAgg5
 z5 := Tryz.sizeOf5
 v5 := Tryz.zeroValue5
 infoByte := by kernel_rfl
 cellsByte := by kernel_rfl
 sizeByte := by kernel_rfl
 neB5 := by decide
theorem writeRune_c (B b : Nat) (bs : List Value) (r : Int) (hr0 : -2147483648 ≤ r) (hr1 : r ≤ 2147483647) (w : World) (h : Lib.IsBuilderF 249 5 B b bs w) (hlen : bs.length + 4 ≤ 140737488355328) (hBw : B ≤ w.heap.size) :
   Calls Tryz.prog 207 #[.pointer (some ⟨b, 0, none⟩), .int .i32 r] w fun e w' => e = .returned (.tuple #[.int .i64 (Lib.runeCells r).length, .nilIface]) ∧ (Lib.BuilderAtF 249 5 B b (.pointer (some ⟨b, 0, none⟩)) (bs ++ Lib.runeCells r) w' ∧ Below B w w' ∧ Lib.OthersKept 5 (some b) w w') :=
 Any.Builder_WriteRune_k Tryz.laysWR bextra B b bs r hr0 hr1 w h hlen hBw
theorem string_c (B b : Nat) (l : List UInt8) (w : World) (h : Lib.IsBuilderF 249 5 B b (Lib.byteCells l) w) (hBw : B ≤ w.heap.size) :
   Calls Tryz.prog 161 #[.pointer (some ⟨b, 0, none⟩)] w fun e w' => e = .returned (.string ⟨l.toArray⟩) ∧ (Lib.IsBuilderF 249 5 B b (Lib.byteCells l) w' ∧ Below B w w') :=
 Any.Builder_String_any_f Tryz.laysBS bextra2 B b l w h hBw
theorem lower_c (r : Int) (w : World) (hV : Lib.CaseVar (Tryz.laysLower_ren.g 13) Lib.caseA w) :
   Calls Tryz.prog 208 #[.int .i32 r] w fun e w' => e = .returned (.int .i32 (Lib.toLowerU r)) ∧ ∃ q, w' = w.drewN q :=
 Any.unicode_ToLower_laid Tryz.laysLower r w hV
theorem caseVar_below {g : Nat} {T : Array Lib.CaseRow} {w w' : World} (h : Lib.CaseVar g T w) (hb : Below w.heap.size w w') : Lib.CaseVar g T w' := by
 have k : ∀ {a : Addr} {v : Value}, w.cell? a = some v → w'.cell? a = some v := fun {a v} hc => (hb.cell (World.block_lt_of_cell? w a hc)).trans hc
 obtain ⟨R, oR, cap, h1, h2⟩ := h
 exact ⟨R, oR, cap, k h1, fun i hi => ⟨k (h2 i hi).1, k (h2 i hi).2.1, k (h2 i hi).2.2.1, k (h2 i hi).2.2.2.1, k (h2 i hi).2.2.2.2⟩⟩
theorem valid_c (s : ByteArray) (w : World) (hs : s.size ≤ 9223372036854775807) (hT : Lib.Utf8Tabs (Tryz.laysValid_ren.g 3) (Tryz.laysValid_ren.g 4) w) :
   Calls Tryz.prog 66 #[.string s] w fun e w' => e = .returned (.bool (validS s)) ∧ Below w.heap.size w w' := Any.utf8_ValidString Tryz.laysValid s w hs hT
theorem low_range (r : Int) (h0 : -2147483648 ≤ r) (h1 : r ≤ 2147483647) : -2147483648 ≤ Lib.toLowerU r ∧ Lib.toLowerU r ≤ 2147483647 := by
 rw [← toLowerW_caseA]
 unfold Lib.toLowerW
 split
 · split <;> omega
 · unfold Lib.toW
   split
   · unfold RowKit.wrap32; omega
   · omega
set_option maxHeartbeats 4000000 in
set_option maxRecDepth 1000000 in
theorem norm_walk (s : ByteArray) (w : World) (hs : s.size ≤ 35184372088832) (hT : Lib.Utf8Tabs (Tryz.laysValid_ren.g 3) (Tryz.laysValid_ren.g 4) w) (hC : Lib.CaseVar (Tryz.laysLower_ren.g 13) Lib.caseA w) :
   Calls Tryz.prog 167 #[.string s] w fun e w' => e = .returned (.string (normB s)) ∧ Below w.heap.size w w' := by
 have cV := valid_c s w (by omega) hT
 cases hv : validS s with
 | false =>
   rw [hv] at cV
   have hn : normB s = ⟨#[]⟩ := by unfold normB; rw [hv]; rfl
   rw [hn]
   go_enter Tryz.func167, Tryz.ntmps167
   go_wp2_with (go_at_call 66; refine cV.mono ?_)
   rintro e W1 ⟨rfl, b1⟩
   go_wp2
   go_ret
   exact ⟨rfl, b1⟩
 | true =>
   rw [hv] at cV
   have hn : normB s = ⟨(lowF s s.size 0).toArray⟩ := by unfold normB; rw [hv]; rfl
   rw [hn]
   go_enter Tryz.func167, Tryz.ntmps167
   go_wp2_with (go_at_call 66; refine cV.mono ?_)
   rintro e W0 ⟨rfl, b0⟩
   have hC0 := caseVar_below hC b0
   go_wp2
   go_loopw [] (fun wr => ∃ (pos fuel : Nat) (acc : List UInt8), Lib.IsBuilderF 249 5 W0.heap.size W0.heap.size (Lib.byteCells acc) wr ∧ wr.heap[W0.heap.size + 1]? = some (.stringIter s pos) ∧ Below W0.heap.size W0 wr ∧ acc ++ lowF s fuel pos = lowF s s.size 0 ∧ s.size ≤ pos + fuel ∧ acc.length ≤ 4 * pos) (fun wr => s.size - wr.iterPos (W0.heap.size + 1))
   case atStart =>
     refine ⟨0, s.size, [], (Lib.IsBuilderF.of (Lib.fresh_isBuilder 249 5 W0)).alloc _, ?_, ((Below.refl _ W0).alloc (Nat.le_refl _) _).alloc (by simp) _, rfl, by omega, by simp⟩
     have := World.iter_heap (W0.alloc (.cells #[.pointer none, .slice none 0 0] 249)) s 0
     simpa using this
   case round =>
     obtain ⟨pos, fuel, acc, hI, hit, hbw, hacc, hfu, hal⟩ := hrel
     have hsz : W0.heap.size + 1 < wr.heap.size := (Array.getElem?_eq_some_iff.1 hit).1
     by_cases hp : pos < s.size
     · have hnx : ∀ ty, (Instr.next (.pointer (some ⟨W0.heap.size + 1, 0, none⟩)) true ty).run Tryz.prog wr = _ := fun ty => Lib.run_next_any_at wr (W0.heap.size + 1) s pos ty hit hp
       have hwd := width_pos s pos hp
       have hd1 := decode_le s pos
       have hI2 := hI.iterAt hit (pos + (Utf8.decode s pos).2)
       have hit2 := Lib.iterAt_heap wr (W0.heap.size + 1) s pos (pos + (Utf8.decode s pos).2) hit
       have hbw2 := Lib.below_iterAt hbw (k := W0.heap.size + 1) (by omega) s (pos + (Utf8.decode s pos).2)
       have hsz2 : W0.heap.size ≤ (wr.iterAt (W0.heap.size + 1) s (pos + (Utf8.decode s pos).2)).heap.size := by rw [Lib.iterAt_size]; omega
       have hCr := caseVar_below hC0 hbw2
       obtain ⟨f, rfl⟩ : ∃ f, fuel = f + 1 := ⟨fuel - 1, by omega⟩
       have cL := lower_c ((Utf8.decode s pos).1 : Int) _ hCr
       go_wp2_with (go_at_call 208; refine cL.mono ?_)
       rintro e W1 ⟨rfl, q, rfl⟩
       have hI3 : Lib.IsBuilderF 249 5 W0.heap.size W0.heap.size (Lib.byteCells acc) ((wr.iterAt (W0.heap.size + 1) s (pos + (Utf8.decode s pos).2)).drewN q) := hI2
       have hit3 : ((wr.iterAt (W0.heap.size + 1) s (pos + (Utf8.decode s pos).2)).drewN q).heap[W0.heap.size + 1]? = some (.stringIter s (pos + (Utf8.decode s pos).2)) := hit2
       have hbw3 : Below W0.heap.size W0 ((wr.iterAt (W0.heap.size + 1) s (pos + (Utf8.decode s pos).2)).drewN q) := ⟨hbw2.os, hbw2.tape, hbw2.output, hbw2.size, hbw2.block⟩
       have hlo := low_range ((Utf8.decode s pos).1 : Int) (by omega) (by omega)
       go_wp2_with (go_at_call 207; refine (writeRune_c W0.heap.size W0.heap.size _ _ hlo.1 hlo.2 _ hI3 (by rw [Lib.byteCells_length]; omega) hsz2).mono ?_)
       rintro e W2 ⟨rfl, h1, b1, k1⟩
       go_wp2
       go_roundw
       case rel =>
         have hl4 := Lib.runeCells_le (Lib.toLowerU ((Utf8.decode s pos).1 : Int))
         rw [Lib.runeCells_length] at hl4
         refine ⟨pos + (Utf8.decode s pos).2, f, acc ++ Lib.encodeRune (Lib.toLowerU (Utf8.decode s pos).1), ?_, k1.iter hit3 (by omega), hbw3.trans b1, ?_, by omega, by simp; omega⟩
         · rw [Lib.byteCells_append, Lib.byteCells_encodeRune]; exact Or.inr h1
         · rw [← hacc]; simp [lowF, hp]
       case measure =>
         simp only [World.iterPos, k1.iter hit3 (by omega), hit]
         omega
     · have hnx : ∀ ty, (Instr.next (.pointer (some ⟨W0.heap.size + 1, 0, none⟩)) true ty).run Tryz.prog wr = _ := fun ty => Lib.run_next_end_at wr (W0.heap.size + 1) s pos ty hit hp
       go_wp2_with (go_at_call 161; refine (string_c W0.heap.size W0.heap.size acc _ hI (by omega)).mono ?_)
       rintro e W1 ⟨rfl, _, b1⟩
       go_wp2
       go_ret
       rw [lowF_end s fuel pos hp, List.append_nil] at hacc
       subst hacc
       exact ⟨rfl, b0.trans ((hbw.trans b1).mono b0.size)⟩
end YtflfhpokmidnmaaGreatDoor
end Go.Proofs
namespace Go.Sl
open Go
theorem Sat.fresh {w0 w w' : World} {L : List HProp} {A : Nat} {o : Obj} (s : Sat w0 w L) (hb : RowKit.Below w.heap.size w w') (h : w'.heap[A]? = some o) (hA : w.heap.size ≤ A) : Sat w0 w' (Sl.pt A o :: L) := by
 have s' := s.same hb.os hb.tape hb.output hb.size hb.block
 obtain ⟨k, le, l⟩ := s.heap
 have hn : k A = none := by
   cases hk : k A with
   | none => rfl
   | some x => have := (Array.getElem?_eq_some_iff.1 (le A x hk)).1; omega
 refine ⟨s'.os, s'.tape, s'.output, s'.size, Hp.un (fun c => if c = A then some o else none) k, ?_, _, k, ?_, rfl, ⟨by simp, fun c hc => by simp [hc]⟩, l⟩
 · intro c x hx
   by_cases hc : c = A
   · subst hc; simp [Hp.un] at hx; rw [← hx]; exact h
   · simp only [Hp.un, hc, if_false] at hx
     have := le c x hx
     rw [hb.block c (Array.getElem?_eq_some_iff.1 this).1]; exact this
 · intro c
   by_cases hc : c = A
   · subst hc; exact .inr hn
   · exact .inl (by simp [hc])
end Go.Sl
namespace Go.Proofs
open Go.RowKit Go.Shelf
namespace YtflfhpokmidnmaaGreatDoor
open Go Go.Sl Go.Gv Go.Po Go.Ix
set_option maxRecDepth 100000
def TabX (h0 : Hp) : Prop := Tabs h0 ∧ ∀ w, Hp.le h0 w → Lib.TabIs Tryz.prog w "unicode.properties" .u8 Lib.propertiesTab ∧ Lib.RVar (Tryz.laysLetter_ren.g 8) Lib.letterT w ∧ Lib.RVar (Tryz.laysDigit_ren.g 5) Lib.digitT w ∧ Lib.CaseVar (Tryz.laysLower_ren.g 13) Lib.caseA w
theorem TabX.mono {h0 h1 : Hp} (T : TabX h0) (h : ∀ b o, h0 b = some o → h1 b = some o) : TabX h1 :=
 ⟨fun w hw => T.1 w fun b o e => hw b o (h b o e), fun w hw => T.2 w fun b o e => hw b o (h b o e)⟩
theorem isLetter_ct {h0 : Hp} (T : TabX h0) (r : Int) (hlo : -2147483648 ≤ r) (hhi : r ≤ 2147483647) : Ct Tryz.prog 235 [.int .i32 r] [ro h0] (fun v hs => v = .bool (Lib.isLetterU r) ∧ hs = [ro h0]) :=
 Ct.ofBelow Tryz.func235 rfl (by kernel_rfl) (V := fun _ => .bool (Lib.isLetterU r)) (fun w0 w R st => Any.unicode_IsLetter_all Tryz.laysLetter (by kernel_rfl) r w hlo hhi (T.2 w (Sat.ro st)).1 (T.2 w (Sat.ro st)).2.1) (fun _ => ⟨rfl, rfl⟩)
theorem isDigit_ct {h0 : Hp} (T : TabX h0) (r : Int) (hlo : -2147483648 ≤ r) (hhi : r ≤ 2147483647) : Ct Tryz.prog 236 [.int .i32 r] [ro h0] (fun v hs => v = .bool (Lib.isDigitU r) ∧ hs = [ro h0]) :=
 Ct.ofBelow Tryz.func236 rfl (by kernel_rfl) (V := fun _ => .bool (Lib.isDigitU r)) (fun w0 w R st => Any.unicode_IsDigit_all Tryz.laysDigit r w hlo hhi (T.2 w (Sat.ro st)).2.2.1) (fun _ => ⟨rfl, rfl⟩)
def letB (r : Int) : Bool := Lib.isLetterU r || Lib.isDigitU r
theorem letter_spec {h0 : Hp} (T : TabX h0) (r : Int) (hlo : -2147483648 ≤ r) (hhi : r ≤ 2147483647) : Ct Tryz.prog 206 [.int .i32 r] [ro h0] (fun v hs => v = .bool (letB r) ∧ hs = [ro h0]) := by
 refine Cti Tryz.func206 (by kernel_rfl) 9 Tryz.ntmps206 rfl rfl fun w0 R => ?_
 refine Gsr (Las rfl rfl (Lnt (Gsr (Lmv rfl rfl (La rfl (asC (isLetter_ct T r hlo hhi)) ?_)))))
 rintro _ _ ⟨_, ⟨rfl, rfl⟩, rfl⟩
 refine LpuB rfl rfl trivial (pu_move rfl) (fun hg2 => ?_) (fun hg2 => ?_)
 ·
  refine Lof rfl (Lof rfl (Lpk rfl rfl rfl (Las rfl rfl (Lnt (Gs.ret ?_)))))
  exact Gs.fin1 Tryz.results206 rfl _ (⟨by simp [letB, hg2], rfl⟩) (by repeat constructor)
 refine Lpu rfl rfl ⟨_, rfl, rfl⟩ (pu_move rfl) (Lac rfl rfl ⟨_, rfl, rfl⟩ (asC (isDigit_ct T r hlo hhi)) ?_)
 rintro _ _ ⟨_, ⟨rfl, rfl⟩, rfl⟩
 refine Lpk rfl rfl rfl (Las rfl rfl (Lnt (Gs.ret ?_)))
 exact Gs.fin1 Tryz.results206 rfl _ (⟨by simp [letB, hg2], rfl⟩) (by repeat constructor)
theorem other_spec {h0 : Hp} (T : TabX h0) (r : Int) (hlo : -2147483648 ≤ r) (hhi : r ≤ 2147483647) : Ct Tryz.prog 166 [.int .i32 r] [ro h0] (fun v hs => v = .bool (!letB r) ∧ hs = [ro h0]) := by
 refine Cti Tryz.func166 (by kernel_rfl) 6 Tryz.ntmps166 rfl rfl fun w0 R => ?_
 refine Gsr (Las rfl rfl (Lnt (Gsr (Lmv rfl rfl (La rfl (asC (letter_spec T r hlo hhi)) ?_)))))
 rintro _ _ ⟨_, ⟨rfl, rfl⟩, rfl⟩
 refine Lq rfl (pu_not rfl) (Las rfl rfl (Lnt (Gs.ret ?_)))
 exact Gs.fin1 Tryz.results166 rfl _ (⟨rfl, rfl⟩) (by repeat constructor)
def notW (x : Nat) : Bool := !letB (x : Int)
theorem other_pays {h0 : Hp} (T : TabX h0) {w : World} (hw : Hp.le h0 w) : PredGrows Tryz.prog 166 #[] notW w := by
 intro W x hx hb
 have hle : ∀ b o, h0 b = some o → whole W b = some o := fun b o e => by
   have h1 := hw b o e
   show W.heap[b]? = some o
   rw [hb.block b (Array.getElem?_eq_some_iff.1 h1).1]; exact h1
 refine ((other_spec (T.mono hle) (x : Int) (by omega) (by omega)).calls W W [] (Sat.start W)).mono ?_
 rintro e w' ⟨v, hs, he, ⟨hv, hhs⟩, hsat⟩
 subst hv; subst hhs
 exact ⟨he, Sat.below hsat⟩
theorem fields_spec {h0 : Hp} (T : TabX h0) (s : ByteArray) (hs : s.size ≤ 4294967296) : Ct Tryz.prog 165 [.string s, .func (.func 166) #[] #[]] [ro h0]
   (fun v hs => ∃ a c, v = .slice a (Lib.goFieldsP notW s).length c ∧ hs = [ro h0, sl 9 1 strC a c (Lib.goFieldsP notW s)]) := by
 refine ⟨enters_of Tryz.func165 (by kernel_rfl) rfl _, fun w0 w R st => ?_⟩
 refine (Any.strings_FieldsFunc_grows Tryz.laysFF 166 #[] (enters_of Tryz.func166 (by kernel_rfl) rfl) notW s w hs (other_pays T (Sat.ro st)) (by kernel_rfl) (by kernel_rfl)).mono ?_
 rintro e w' ⟨A, rfl, hA, hown, hb⟩
 obtain ⟨h1, h2⟩ := hown
 rcases h2 with ⟨h, -⟩ | ⟨g, cap, cur, hv, hg, hc, hn, hm, hsz, htk⟩
 · cases h
 · cases hv
   refine ⟨_, _, rfl, ⟨some ⟨A, 0, none⟩, _, rfl, rfl⟩, ?_⟩
   have s2 := (Sat.fresh st hb hc hA).ent (sl_new (E := 9) (sz := 1) (enc := strC) (c := (Lib.goFieldsP notW s).length) (xs := Lib.goFieldsP notW s) (Nat.le_refl _) (by omega) (fun i x hi j v hj => ?_))
   · exact Ent.sat (.cons (.tl .hd) (.cons .hd .refl)) s2
   · have hj0 : j = 0 ∧ v = .string x := by
       cases j with
       | zero => simp at hj; exact ⟨rfl, hj.symm⟩
       | succ j => simp at hj
     obtain ⟨rfl, rfl⟩ := hj0
     have hil := (List.getElem?_eq_some_iff.1 hi).1
     have : (cur.toList.take ((Lib.goFieldsP notW s).length * 1))[i]? = some (.string x) := by rw [htk, List.getElem?_map, hi]; rfl
     rw [List.getElem?_take, if_pos (by omega)] at this
     simpa using this
theorem norm_spec {h0 : Hp} (T : TabX h0) (s : ByteArray) (hs : s.size ≤ 35184372088832) : Ct Tryz.prog 167 [.string s] [ro h0] (fun v hs => v = .string (normB s) ∧ hs = [ro h0]) :=
 Ct.ofBelow Tryz.func167 rfl (by kernel_rfl) (V := fun _ => .string (normB s)) (fun w0 w R st => norm_walk s w hs (T.1 w (Sat.ro st)) (T.2 w (Sat.ro st)).2.2.2) (fun _ => ⟨rfl, rfl⟩)
theorem spans_len (p : Nat → Bool) (s : ByteArray) : ∀ (f pos : Nat) (st : Option Nat) (acc : List (Nat × Nat)), (Lib.spansFromP p s f pos st acc).1.length ≤ acc.length + f
 | 0, _, _, acc => by simp [Lib.spansFromP]
 | f + 1, pos, st, acc => by
   unfold Lib.spansFromP
   split
   · split
     · split
       · refine Nat.le_trans (spans_len p s f _ _ _) ?_; simp; omega
       · refine Nat.le_trans (spans_len p s f _ _ _) ?_; omega
     · split <;> (refine Nat.le_trans (spans_len p s f _ _ _) ?_; omega)
   · simp
theorem fields_len (p : Nat → Bool) (s : ByteArray) : (Lib.goFieldsP p s).length ≤ s.size + 1 := by
 have := spans_len p s s.size 0 none []
 unfold Lib.goFieldsP Lib.spansOfP Lib.closeSpans
 rw [List.length_map]
 split
 · rw [List.length_append]; simp at this ⊢; omega
 · simp at this; omega
theorem fields_size {p : Nat → Bool} {s w : ByteArray} (h : w ∈ Lib.goFieldsP p s) : w.size ≤ s.size := by
 obtain ⟨x, -, rfl⟩ := List.mem_map.1 h
 rw [ByteArray.size_extract]; omega
def wordsB (s : ByteArray) : List ByteArray := if textB s then (Lib.goFieldsP notW s).map normB else []
def toksOf (l : List ByteArray) (i : Nat) : List WordP := (l.zipIdx i).map fun p => (p.1, (p.2 : Int))
def toksV (s : ByteArray) : List WordP := toksOf (wordsB s) 0
theorem toks_snoc (l : List ByteArray) (w : ByteArray) (i : Nat) : toksOf (l ++ [w]) i = toksOf l i ++ [(w, ((i + l.length : Nat) : Int))] := by
 unfold toksOf; rw [List.zipIdx_append, List.map_append]; simp
theorem toks_length (l : List ByteArray) (i : Nat) : (toksOf l i).length = l.length := by unfold toksOf; simp
theorem words_len (s : ByteArray) : (wordsB s).length ≤ 121 := by
 unfold wordsB; split
 · rename_i h
   have := fields_len notW s
   simp only [textB, Bool.and_eq_true, decide_eq_true_eq] at h
   rw [List.length_map]; omega
 · exact Nat.zero_le _
theorem of_spec {h0 : Hp} (T : TabX h0) (s : ByteArray) : Ct Tryz.prog 136 [.string s] [ro h0] (fun v hs => ∃ a c, v = .slice a (toksV s).length c ∧ hs = [ro h0, sl 214 2 wordC a c (toksV s)]) := by
 refine Cti Tryz.func136 (by kernel_rfl) 26 Tryz.ntmps136 rfl rfl fun w0 R => ?_
 refine Gsr (Las rfl rfl (Lnt (Gs.seq (Gsr (Lmv rfl rfl (La rfl (asC (textMay_spec T.1 s)) ?_))))))
 rintro _ _ ⟨_, ⟨rfl, rfl⟩, rfl⟩
 refine Lq rfl (pu_not rfl) (Lnt (Gs.cond rfl (fun hc0 => ?_) (fun hc0 => ?_)))
 ·
  have hno : toksV s = [] := by unfold toksV wordsB; rw [not_t hc0]; rfl
  refine Gsr (Las rfl rfl (Lnt (Gs.ret (Gr (Gs.slNil 214 2 wordC ?_)))))
  exact Gs.fin1 Tryz.results136 rfl _ (⟨none, 0, by rw [hno]; rfl, by rw [hno]⟩) (by repeat constructor)
 have hyes : wordsB s = (Lib.goFieldsP notW s).map normB := if_pos (not_f hc0)
 have hsz : s.size ≤ 120 := by have := not_f hc0; simp only [textB, Bool.and_eq_true, decide_eq_true_eq] at this; omega
 have hfl := fields_len notW s
 refine Gs.skip (Gn (Gsr (Las rfl rfl (Lnil (Gs.slNil 214 2 wordC (Gn (Gs.seq (Gsr (Lmv rfl rfl (La rfl (asC (fields_spec T s (by omega))) ?_))))))))))
 rintro _ _ ⟨_, ⟨fa, fc, rfl, rfl⟩, rfl⟩
 refine Lq rfl (pu_len Tryz.underlying22 rfl) (Lmv rfl rfl (Lnil (Gs.slAddr (xs := Lib.goFieldsP notW s) (SlH.own (E := 9) (enc := strC) (a := fa) (c := fc) (by repeat constructor)) fun fb fo hfa => ?_)))
 refine Gn (Gs.block (Gs.loop1 (fun s1 : Nat × (Option Addr × Nat) × List WordP => s1.1 ≤ (Lib.goFieldsP notW s).length ∧ s1.2.2 = toksOf (((Lib.goFieldsP notW s).take s1.1).map normB) 0) (fun s1 => [(3, .slice s1.2.1.1 s1.2.2.length s1.2.1.2), (10, .slice fa (Lib.goFieldsP notW s).length fc), (11, int (Lib.goFieldsP notW s).length), (12, int s1.1)]) (fun s1 => [ro h0, sl 9 1 strC fa fc (Lib.goFieldsP notW s), sl 214 2 wordC s1.2.1.1 s1.2.1.2 s1.2.2] ++ R) (fun s1 => (Lib.goFieldsP notW s).length - s1.1) (0, (none, 0), []) (⟨Nat.zero_le _, rfl⟩) (by repeat constructor) (by repeat constructor) (fun s1 hs => ?_)))
 obtain ⟨i, ⟨ka, kc⟩, K⟩ := s1
 obtain ⟨hi, hK⟩ := hs
 dsimp only at hi hK ⊢
 have hKl : K.length ≤ 121 := by rw [hK, toks_length, List.length_map, List.length_take]; omega
 refine Gsr (Lq rfl (pu_lt rfl rfl) (Lnt (Gs.seq (Gs.cond rfl (fun hc1 => ?_) (fun hc1 => ?_)))))
 ·
  have hlt : i < (Lib.goFieldsP notW s).length := by have := of_decide_eq_true hc1; omega
  obtain ⟨w, hw⟩ : ∃ x, (Lib.goFieldsP notW s)[i]? = some x := ⟨(Lib.goFieldsP notW s)[i], by simp [hlt]⟩
  obtain rfl := hfa (by intro e; rw [e] at hw; simp at hw)
  have hwz := fields_size (List.mem_of_getElem? hw)
  have hin : K ++ [(normB w, (i : Int))] = toksOf (((Lib.goFieldsP notW s).take (i + 1)).map normB) 0 := by
    have hl : (((Lib.goFieldsP notW s).take i).map normB).length = i := by rw [List.length_map, List.length_take]; omega
    rw [List.take_add_one, hw, List.map_append, show (some w).toList.map normB = [normB w] from rfl, toks_snoc, hl, Nat.zero_add, hK]
  refine Gs.skip (Gn (Gs.seq (Gs.block (Gsr (Lmv rfl rfl (Lq rfl (pu_ia se_22 rfl rfl (by omega) (by omega)) (Lr rfl (rd_ld na_9 rfl (Rdc.el0 (SlH.own (xs := Lib.goFieldsP notW s) (E := 9) (c := fc) (by repeat constructor)) hw rfl rfl)) ?_)))))))
  refine Las rfl rfl (Las rfl rfl (Lnt (Gs.reg (Lmv rfl rfl (Lmv rfl rfl (La rfl (asC (norm_spec T w (by omega))) ?_))))))
  rintro _ _ ⟨_, ⟨rfl, rfl⟩, rfl⟩
  refine Lmv rfl rfl (Lq rfl (pu_build bd_214 (by repeat constructor) rfl) ?_)
  refine La rfl (ac_lit encC_214 ([(normB w, (i : Int))]) et_211 ek_214 rfl (by repeat constructor) rfl rfl (by decide)) ?_
  rintro _ _ ⟨a22, rfl, rfl⟩
  refine La rfl (ac_append (xs := K) (ys := [(normB w, (i : Int))]) et_211 ek_214 rfl rfl (by repeat constructor) (SrcH.sl Tryz.underlying211 ek_214 (SlH.own (by repeat constructor))) (by first | omega | (simp; omega)) (by first | omega | (simp; omega))) ?_
  rintro _ _ ⟨a23, c23, rfl, rfl⟩
  refine Las rfl rfl (Lnil (Gs.blk_n (Gn (Gs.reg (Lq rfl (by first | exact pu_addI rfl rfl rfl (by omega) (by omega) | exact pu_add rfl rfl) ?_)))))
  refine Lmv rfl rfl (Lnt ?_)
  exact Ag (i + 1, (a23, c23), K ++ [(normB w, (i : Int))]) ⟨by show i + 1 ≤ _; omega, hin⟩ (by show _ - (i + 1) < _ - i; omega)
 have hge : i = (Lib.goFieldsP notW s).length := by have := of_decide_eq_false hc1; omega
 rw [hge, List.take_length, ← hyes] at hK
 have hK2 : K = toksV s := hK
 subst hK2
 refine Gs.exit (Gx (Gx (Gs.blk_hit (Gn (Gsr (Lmv rfl rfl (Las rfl rfl (Lnt (Gs.ret ?_)))))))))
 exact Gs.fin1 Tryz.results136 rfl _ (⟨ka, kc, rfl, rfl⟩) (by repeat constructor)
end YtflfhpokmidnmaaGreatDoor
end Go.Proofs
namespace Go.Ix
open Go Go.Sl Go.Gv Go.Kv Go.Po Go.Bst
def posStep (m : List (ByteArray × List Int)) (p : WordP) : List (ByteArray × List Int) := mput m p.1 ((mget m p.1).getD [] ++ [p.2])
def posL (T : List WordP) : List (ByteArray × List Int) := T.foldl posStep []
def putW (k : Key) (m : PL) (e : ByteArray × List Int) : PL := mput m e.1 (putP ((mget m e.1).getD []) (k, e.2))
theorem filter_two {α : Type} {f g : α → Bool} (h : ∀ x, f x = true → g x = true → False) : ∀ L : List α, (L.filter f).length + (L.filter g).length ≤ L.length
 | [] => Nat.le_refl _
 | x :: L => by
   have ih := filter_two h L
   have := h x
   rw [List.filter_cons, List.filter_cons]
   cases hf : f x <;> cases hg : g x <;> simp_all <;> omega
theorem putP_le (L : List PostP) (x : PostP) : (putP L x).length ≤ L.length + 1 := by
 unfold putP
 split
 · split
   · have := filter_two (f := fun y : PostP => before y.1 x.1) (g := fun y : PostP => before x.1 y.1) (fun y h1 h2 => by have := before_asymm h1; simp_all) L
     simp only [List.length_append, List.length_cons, List.length_nil]; omega
   · omega
 · exact Nat.zero_le _
theorem putP_sub {L : List PostP} {x p : PostP} (h : p ∈ putP L x) : p = x ∨ p ∈ L := by
 unfold putP at h
 split at h
 · split at h
   · simp only [List.mem_append, List.mem_filter, List.mem_cons, List.not_mem_nil, or_false] at h
     rcases h with (h | h) | h
     · exact .inr h.1
     · exact .inl h
     · exact .inr h.1
   · exact .inr h
 · cases h
section
variable {α : Type}
theorem del_none {κ : Type} [DecidableEq κ] : ∀ {m : List (κ × α)} {k : κ}, mget m k = none → mdel m k = m
 | [], _, _ => rfl
 | (j, u) :: m, k, h => by
   unfold mget at h
   split at h
   · cases h
   · rename_i e; unfold mdel; rw [if_neg e, del_none h]
theorem take_del {κ : Type} [DecidableEq κ] {f : κ × α → HProp} : ∀ {m : List (κ × α)} {k : κ} {v : α}, mget m k = some v → Take (f (k, v)) (m.map f) ((mdel m k).map f)
 | [], _, _, h => by cases h
 | (j, u) :: m, k, v, h => by
   unfold mget at h; unfold mdel
   split at h
   · rename_i e; cases h; subst e; rw [if_pos rfl]; exact .hd
   · rename_i e; rw [if_neg e]; exact .tl (take_del h)
theorem take_put {κ : Type} [DecidableEq κ] {f : κ × α → HProp} : ∀ {m : List (κ × α)} {k : κ} {v : α}, Take (f (k, v)) ((mput m k v).map f) ((mdel m k).map f)
 | [], _, _ => .hd
 | (j, u) :: m, k, v => by
   unfold mput mdel
   split
   · rename_i e; subst e; exact .hd
   · exact .tl take_put
theorem mput_len {κ : Type} [DecidableEq κ] (m : List (κ × α)) (k : κ) (v : α) : (mput m k v).length ≤ m.length + 1 := by
 induction m with
 | nil => exact Nat.le_refl _
 | cons p m ih =>
   obtain ⟨j, u⟩ := p
   unfold mput
   split
   · simp
   · simp only [List.length_cons]; omega
end
end Go.Ix
namespace Go.Proofs.YtflfhpokmidnmaaGreatDoor
open Go Go.Sl Go.Gv Go.Kv Go.Po Go.Ix Go.Bst
set_option maxRecDepth 100000
def putN (W : PW) (r : Rec) : Int := if recB r then (if (mget W r.key).isSome then 6 else 0) else 2
def PutI (r : Rec) (T : List WordP) (s s' : PL × PW) : Prop :=
 if putN s.2 r = 0 then ∃ es, List.Perm es (posL T) ∧ s' = (es.foldl (putW r.key) s.1, mput s.2 r.key (sortB (mkeys (posL T)))) else s' = s
abbrev atM (p : ByteArray × SlV Int) : HProp := sl 3 1 intC p.2.a p.2.c p.2.xs
theorem Gs.atTake {w0 : World} {n : Nat} {env : Env} {H : List HProp} {X : Act → World → Prop} {M : List (ByteArray × SlV Int)} (w : ByteArray) (g : Gs w0 n env (atM (w, (mget M w).getD slZ) :: big ((mdel M w).map atM) :: H) X) : Gs w0 n env (big (M.map atM) :: H) X := by
 cases h : mget M w with
 | some s => rw [h] at g; exact Gs.bigTake (take_del h) g
 | none =>
   rw [h, del_none h] at g
   exact Gs.slNil 3 1 intC g
theorem RdW.put {S : HProp} {W : List (Key × SlV ByteArray)} (h : RdW S W) {k : Key} {a : Option Addr} {c : Nat} {ws : List ByteArray} (hl : ws.length ≤ 1000) : RdW (two S (sl 9 1 strC a c ws)) (mput W k ⟨a, ws, c⟩) := fun p hp => by
 rcases mem_put hp with rfl | hp
 · exact ⟨Srd.two2 Srd.own, hl⟩
 · exact ⟨Srd.two1 (h p hp).1, (h p hp).2⟩
theorem put_spec {h0 : Hp} (T : TabX h0) (x : Nat) (L : List (ByteArray × SlV PostV)) (W : List (Key × SlV ByteArray)) (r : Rec) (hlen : ∀ p ∈ L, p.2.xs.length ≤ 800) :
   Ct Tryz.prog 100 [ptr x, recV r] [ixA x L W, ro h0] (fun v hs => ∃ L' W', v = int (putN (plW W) r) ∧ PutI r (toksV r.t) (plL L, plW W) (plL L', plW W') ∧ hs = [ixA x L' W', ro h0]) := by
 refine Cti Tryz.func100 (by kernel_rfl) 81 Tryz.ntmps100 rfl rfl fun w0 R => ?_
 refine Gsr (La rfl (ac_box rfl rfl) ?_)
 rintro _ _ ⟨rb, rfl, rfl⟩
 refine Las rfl rfl (Lnt (Gs.seq (Gsr (Lmv rfl rfl (Lq rfl (pu_eqN Tryz.underlying151 rfl rfl) (Lnt (Gs.cond_ff rfl rfl (Gs.skip (Gn (Gs.seq (Gsr ?_)))))))))))
 refine Lr rfl (rd_lda ag_50 rfl (Rdc.cl 5 (by repeat constructor) rfl) rfl) ?_
 refine La rfl (asC (recMay_spec T.1 r)) ?_
 rintro _ _ ⟨_, ⟨rfl, rfl⟩, rfl⟩
 refine Lq rfl (pu_not rfl) (Lnt (Gs.cond rfl (fun hc1 => ?_) (fun hc1 => ?_)))
 ·
  have hno : putN (plW W) r = 2 := by unfold putN; rw [not_t hc1]; rfl
  refine Gsr (Las rfl rfl (Lnt (Gs.ret (Gr ?_))))
  exact Gs.fin1 Tryz.results100 rfl _ (⟨L, W, by rw [hno], by unfold PutI; rw [if_neg (by rw [hno]; decide)], rfl⟩) (by repeat constructor)
 have hmay := not_f hc1
 refine Gs.takes (As := [ixA x L W]) (by repeat constructor) (Gs.ix fun ml mw S hL hW => ?_)
 refine Gs.skip (Gn (Gs.seq (Gs.seq (Gs.regD mixed (by kernel_rfl) (Rmv 0 rfl (by kernel_rfl) rfl (Rq 1 rfl (by kernel_rfl) (by first | exact pu_nil rfl | exact pu_nilF rfl) ?_))))))
 refine Rq 2 rfl (by kernel_rfl) (pu_fa fa_206_1 rfl) (Rr 3 rfl (by kernel_rfl) (rd_ld na_204 rfl (Rdc.cl1 (by repeat constructor) rfl)) ?_)
 refine Rq 4 rfl (by kernel_rfl) (pu_fa fa_50_0 rfl) (Rr 5 rfl (by kernel_rfl) (rd_lda ag_35 rfl (Rdc.cl 2 (by repeat constructor) rfl) rfl) ?_)
 refine Rr 6 rfl (by kernel_rfl) (rd_look2 (k := r.key) Tryz.underlying204 kt_35 zvk_22 rfl rfl (by repeat constructor)) ?_
 refine Rmv 7 rfl (by kernel_rfl) rfl (Rq 8 rfl (by kernel_rfl) (pu_extract rfl rfl) (Rq 9 rfl (by kernel_rfl) (pu_extract rfl rfl) (Rq 10 rfl (by kernel_rfl) (pu_assign rfl) (Rq 11 rfl (by kernel_rfl) (pu_assign rfl) (Rg.end (by kernel_rfl) (Gn (Gsr (Lmv rfl rfl (Lnt (Gs.cond rfl (fun hc2 => ?_) (fun hc2 => ?_)))))))))))
 ·
  have hno : putN (plW W) r = 6 := by
    unfold putN; rw [if_pos hmay, plW, mm_get]
    cases h : mget W r.key with
    | none => rw [h] at hc2; cases hc2
    | some s => rfl
  refine Gsr (Las rfl rfl (Lnt (Gs.ret (Gr (Gs.takes (As := [cl x 206 [.map (some ml), .map (some mw)], mp strV slV ml L, mp keyV slV mw W, S]) (by repeat constructor) (Gs.ixc hL hW ?_))))))
  exact Gs.fin1 Tryz.results100 rfl _ (⟨L, W, by rw [hno], by unfold PutI; rw [if_neg (by rw [hno]; decide)], rfl⟩) (by repeat constructor)
 have hyes : putN (plW W) r = 0 := by
   unfold putN; rw [if_pos hmay, plW, mm_get]
   cases h : mget W r.key with
   | none => rfl
   | some s => rw [h] at hc2; cases hc2
 refine Gs.skip (Gn (Gsr (La rfl (ac_mkmap enck_9 encv_30) ?_)))
 rintro _ _ ⟨m, rfl, rfl⟩
 refine Las rfl rfl (Lnt (Gs.seq (Gsr (Lq rfl (pu_fa fa_50_2 rfl) (Lr rfl (rd_ld na_9 rfl (Rdc.cl1 (by repeat constructor) rfl)) ?_)))))
 refine La rfl (asC (of_spec T r.t)) ?_
 rintro _ _ ⟨_, ⟨ta, tc, rfl, rfl⟩, rfl⟩
 refine Lq rfl (pu_len Tryz.underlying211 rfl) (Lmv rfl rfl (Lnil ?_))
 have htl : (toksV r.t).length ≤ 121 := by rw [toksV, toks_length]; exact words_len _
 refine Gs.slAddr (xs := toksV r.t) (SlH.own (E := 214) (enc := wordC) (a := ta) (c := tc) (by repeat constructor)) fun tb tof hta => ?_
 refine Gs.bigNil (Gn (Gs.block (Gs.loop1 (fun s : Nat × List (ByteArray × SlV Int) => s.1 ≤ (toksV r.t).length ∧ mm (fun s => s.xs) s.2 = posL ((toksV r.t).take s.1) ∧ s.2.length ≤ s.1 ∧ ∀ p ∈ s.2, p.2.xs.length ≤ s.1) (fun s => [(0, ptr x), (3, ptr rb), (7, .map (some m)), (31, .slice ta (toksV r.t).length tc), (32, int (toksV r.t).length), (33, int s.1)]) (fun s => [cl rb 50 (recC r), cl x 206 [.map (some ml), .map (some mw)], mp strV slV ml L, mp keyV slV mw W, S, ro h0, sl 214 2 wordC ta tc (toksV r.t), mp strV slV m s.2, big (s.2.map atM)] ++ R) (fun s => (toksV r.t).length - s.1) (0, []) (⟨Nat.zero_le _, rfl, Nat.zero_le _, fun _ h => by cases h⟩) (by repeat constructor) (by repeat constructor) (fun s hs => ?_))))
 obtain ⟨i, M⟩ := s
 obtain ⟨hi, hM, hMl, hMb⟩ := hs
 dsimp only at hi hM hMl hMb ⊢
 refine Gsr (Lq rfl (pu_lt rfl rfl) (Lnt (Gs.seq (Gs.cond rfl (fun hc3 => ?_) (fun hc3 => ?_)))))
 ·
  have hlt : i < (toksV r.t).length := by have := of_decide_eq_true hc3; omega
  obtain ⟨p, hp⟩ : ∃ z, (toksV r.t)[i]? = some z := ⟨(toksV r.t)[i], by simp [hlt]⟩
  obtain rfl := hta (by rintro h; rw [h] at hlt; simp at hlt)
  have hnx := fold_take posStep [] hp
  rw [show ((toksV r.t).take i).foldl posStep [] = mm (fun s => s.xs) M from hM.symm] at hnx
  have hgl : ((mget M p.1).getD (slZ : SlV Int)).xs.length ≤ i := by
    cases h : mget M p.1 with
    | none => exact Nat.zero_le _
    | some s => exact hMb (p.1, s) (mget_mem h)
  refine Gs.skip (Gn (Gs.seq (Gs.block (Gsr (Lq rfl (pu_ia se_211 rfl rfl (by omega) (by omega)) (Lr rfl (rd_lda ag_214 rfl (Rdc.el0 (SlH.own (xs := toksV r.t) (E := 214) (enc := wordC) (sz := 2) (by repeat constructor)) hp rfl rfl) rfl) ?_))))))
  refine La rfl (ac_alloc zv_214 rfl) ?_
  rintro _ _ ⟨wb, rfl, rfl⟩
  refine Lac0 rfl trivial (ac_st sz_214 rfl rfl (by repeat constructor) rfl rfl rfl rfl) ?_
  rintro _ _ rfl
  refine Lnt (Gs.takes (As := [big (M.map atM)]) (by repeat constructor) (Gs.atTake p.1 ?_))
  refine Gs.regD mixed (by kernel_rfl) (Rmv 0 rfl (by kernel_rfl) rfl (Rq 1 rfl (by kernel_rfl) (pu_fa fa_214_0 rfl) (Rr 2 rfl (by kernel_rfl) (rd_ld na_9 rfl (Rdc.cl1 (by repeat constructor) rfl)) ?_)))
  refine Rmv 3 rfl (by kernel_rfl) rfl (Rq 4 rfl (by kernel_rfl) (pu_fa fa_214_0 rfl) (Rr 5 rfl (by kernel_rfl) (rd_ld na_9 rfl (Rdc.cl1 (by repeat constructor) rfl)) ?_))
  refine Rr 6 rfl (by kernel_rfl) (rd_look1 Tryz.underlying210 kt_9 zvk_30 rfl rfl (by repeat constructor)) ?_
  refine Rq 7 rfl (by kernel_rfl) (pu_fa fa_214_1 rfl) (Rr 8 rfl (by kernel_rfl) (rd_ld na_3 rfl (Rdc.cl1 (by repeat constructor) rfl)) ?_)
  refine Rg.one (by kernel_rfl) (Stp.acK 9 rfl rfl (by kernel_rfl) trivial (ac_lit encC_3 ([p.2]) et_30 ek_3 rfl (by repeat constructor) rfl rfl (by decide)) (by rintro _ _ ⟨a46, rfl, rfl⟩ w s; first | exact s.drop | exact s | exact Ent.sat (by repeat constructor) s) ?_)
  rintro _ _ ⟨a46, rfl, rfl⟩
  refine Rg.one (by kernel_rfl) (Stp.acR 10 [2] rfl rfl (by kernel_rfl) trivial (ac_append (xs := ((mget M p.1).getD (slZ : SlV Int)).xs) (ys := [p.2]) et_30 ek_3 rfl rfl (by repeat constructor) (SrcH.sl Tryz.underlying30 ek_3 (SlH.own (by repeat constructor))) (by first | omega | (simp; omega)) (by first | omega | (simp; omega))) (by rintro _ _ ⟨a47, c47, rfl, rfl⟩; exact (Reads.cons rfl rfl rfl trivial rfl (rd_ld na_9 rfl (Rdc.cl1 (by repeat constructor) rfl)) Reads.nil)) ?_)
  rintro _ _ ⟨a47, c47, rfl, rfl⟩
  refine Rg.one (by kernel_rfl) (Stp.ac0 11 rfl rfl (by kernel_rfl) trivial (ac_put (encv := slV) (k := p.1) (v := (⟨a47, ((mget M p.1).getD (slZ : SlV Int)).xs ++ [p.2], c47⟩ : SlV Int)) Tryz.underlying210 kt_9 rfl rfl rfl (by repeat constructor))  ?_)
  rintro _ _ rfl
  refine Rg.end (by kernel_rfl) (Gs.takes (As := [atM (p.1, (⟨a47, ((mget M p.1).getD (slZ : SlV Int)).xs ++ [p.2], c47⟩ : SlV Int)), big ((mdel M p.1).map atM)]) (by repeat constructor) (Gs.bigBack take_put ?_))
  have hM2 : mm (fun s => s.xs) (mput M p.1 (⟨a47, ((mget M p.1).getD (slZ : SlV Int)).xs ++ [p.2], c47⟩ : SlV Int)) = posL ((toksV r.t).take (i + 1)) := by
    rw [posL, hnx, mm_put, posStep, mm_get]
    congr 2
    cases mget M p.1 <;> rfl
  have hl2 := mput_len M p.1 (⟨a47, ((mget M p.1).getD (slZ : SlV Int)).xs ++ [p.2], c47⟩ : SlV Int)
  have hb2 : ∀ q ∈ mput M p.1 (⟨a47, ((mget M p.1).getD (slZ : SlV Int)).xs ++ [p.2], c47⟩ : SlV Int), q.2.xs.length ≤ i + 1 := fun q hq => by
    rcases mem_put hq with rfl | hq
    · simp only [List.length_append, List.length_cons, List.length_nil]; omega
    · have := hMb q hq; omega
  refine Gs.blk_n (Gn (Gs.reg (Lq rfl (by first | exact pu_addI rfl rfl rfl (by omega) (by omega) | exact pu_add rfl rfl) ?_)))
  refine Lmv rfl rfl (Lnt ?_)
  exact Ag (i + 1, mput M p.1 (⟨a47, ((mget M p.1).getD (slZ : SlV Int)).xs ++ [p.2], c47⟩ : SlV Int)) ⟨hlt, hM2, Nat.le_trans hl2 (Nat.succ_le_succ hMl), hb2⟩ (by show (toksV r.t).length - (i + 1) < (toksV r.t).length - i; omega)
 have hge : i = (toksV r.t).length := by have := of_decide_eq_false hc3; omega
 rw [hge, List.take_length] at hM
 refine Gs.exit (Gx (Gx (Gs.blk_hit (Gn (Gs.seq (Gs.regD mixed (by kernel_rfl) (Rmv 0 rfl (by kernel_rfl) rfl (Rq 1 rfl (by kernel_rfl) (by first | exact pu_nil rfl | exact pu_nilF rfl) ?_))))))))
 refine Rq 2 rfl (by kernel_rfl) (pu_fa fa_206_1 rfl) (Rr 3 rfl (by kernel_rfl) (rd_ld na_204 rfl (Rdc.cl1 (by repeat constructor) rfl)) ?_)
 refine Rq 4 rfl (by kernel_rfl) (pu_fa fa_50_0 rfl) (Rr 5 rfl (by kernel_rfl) (rd_lda ag_35 rfl (Rdc.cl 2 (by repeat constructor) rfl) rfl) ?_)
 refine Rmv 6 rfl (by kernel_rfl) rfl (Rg.one (by kernel_rfl) (Stp.acR 7 [3, 5] rfl rfl (by kernel_rfl) trivial (asC (t_keysFn_spec m)) (by rintro _ _ ⟨_, ⟨fb, rfl, rfl⟩, rfl⟩; exact (Reads.cons rfl rfl rfl trivial rfl (rd_ld na_204 rfl (Rdc.cl1 (by repeat constructor) rfl)) (Reads.cons rfl rfl rfl trivial rfl (rd_lda ag_35 rfl (Rdc.cl 2 (by repeat constructor) rfl) rfl) Reads.nil))) ?_))
 rintro _ _ ⟨_, ⟨fb, rfl, rfl⟩, rfl⟩
 refine Rg.one (by kernel_rfl) (Stp.acR 8 [3, 5] rfl rfl (by kernel_rfl) trivial (asC (sortedT_spec fb m M (by omega))) (by rintro _ _ ⟨_, ⟨sa, sc, rfl, rfl⟩, rfl⟩; exact (Reads.cons rfl rfl rfl trivial rfl (rd_ld na_204 rfl (Rdc.cl1 (by repeat constructor) rfl)) (Reads.cons rfl rfl rfl trivial rfl (rd_lda ag_35 rfl (Rdc.cl 2 (by repeat constructor) rfl) rfl) Reads.nil))) ?_)
 rintro _ _ ⟨_, ⟨sa, sc, rfl, rfl⟩, rfl⟩
 refine Rg.one (by kernel_rfl) (Stp.ac0 9 rfl rfl (by kernel_rfl) trivial (ac_put (encv := slV) (k := r.key) (v := (⟨sa, sortB (mkeys M), sc⟩ : SlV ByteArray)) Tryz.underlying204 kt_35 rfl rfl rfl (by repeat constructor))  ?_)
 rintro _ _ rfl
 refine Rg.end (by kernel_rfl) ?_
 have hkM : mkeys M = mkeys (posL (toksV r.t)) := by rw [← hM]; simp [mm, mkeys]
 have hsl : (sortB (mkeys M)).length ≤ 1000 := by rw [sortB_length]; simp [mkeys]; omega
 have hW2 := hW.put (k := r.key) (a := sa) (c := sc) hsl
 have hpW : plW (mput W r.key ⟨sa, sortB (mkeys M), sc⟩) = mput (plW W) r.key (sortB (mkeys (posL (toksV r.t)))) := by rw [plW, mm_put, hkM]; rfl
 refine Gs.takes (As := [S, sl 9 1 strC sa sc (sortB (mkeys M))]) (by repeat constructor) (Gs.toTwo ?_)
 refine Gn (Gs.seq (Gsr (Lmv rfl rfl (La rfl (ac_range (enck := strV) (encv := slV) Tryz.underlying210 rfl (by repeat constructor)) ?_))))
 rintro _ _ ⟨ri, rfl, rfl⟩
 refine Lnt (Gs.block (Gs.loop1 (fun s : List (ByteArray × SlV Int) × List (ByteArray × SlV Int) × Option (ByteArray × SlV Int) × List (ByteArray × SlV PostV) × HProp => List.Perm (s.1 ++ s.2.1) M ∧ plL s.2.2.2.1 = (mm (fun s : SlV Int => s.xs) s.1).foldl (putW r.key) (plL L) ∧ RdL s.2.2.2.2 s.2.2.2.1 ∧ RdW s.2.2.2.2 (mput W r.key ⟨sa, sortB (mkeys M), sc⟩) ∧ ∀ p ∈ s.2.2.2.1, p.2.xs.length ≤ 800 + s.1.length) (fun s => [(0, ptr x), (3, ptr rb), (59, ptr ri)]) (fun s => [itr strV slV ri m M s.2.1 s.2.2.1, cl x 206 [.map (some ml), .map (some mw)], mp strV slV ml s.2.2.2.1, mp keyV slV mw (mput W r.key ⟨sa, sortB (mkeys M), sc⟩), s.2.2.2.2, big (M.map atM), cl rb 50 (recC r), ro h0] ++ R) (fun s => s.2.1.length) ([], M, none, L, two S (sl 9 1 strC sa sc (sortB (mkeys M)))) (⟨List.Perm.refl _, rfl, hL.l, hW2, fun p hp => hlen p hp⟩) (by repeat constructor) (by repeat constructor) (fun s hs => ?_)))
 obtain ⟨pre, left, last, L1, S1⟩ := s
 obtain ⟨hs, hst, hL1, hW1, hb1⟩ := hs
 dsimp only at hs hst hL1 hW1 hb1 ⊢
 refine Gsr (La rfl (ac_next rfl (by repeat constructor)) ?_)
 rintro _ _ (⟨hl, rfl, rfl⟩ | ⟨j, e, he, rfl, rfl⟩)
 ·
  have hl' : left = [] := hl
  subst hl'
  rw [List.append_nil] at hs
  refine Lq rfl (pu_extract rfl rfl) (Lnt (Gs.seq (Gs.cond_f rfl (Gs.exit (Gx (Gx (Gs.blk_hit (Gn (Gsr (Las rfl rfl (Lnt ?_)))))))))))
  refine Gs.ret (Gs.takes (As := [cl x 206 [.map (some ml), .map (some mw)], mp strV slV ml L1, mp keyV slV mw (mput W r.key ⟨sa, sortB (mkeys M), sc⟩), S1]) (by repeat constructor) (Gs.ixc hL1 hW1 ?_))
  exact Gs.fin1 Tryz.results100 rfl _ (⟨L1, mput W r.key ⟨sa, sortB (mkeys M), sc⟩, by rw [hyes], by unfold PutI; rw [if_pos hyes, hst, hpW]; exact ⟨mm (fun s : SlV Int => s.xs) pre, by rw [← hM]; exact hs.map _, rfl⟩, rfl⟩) (by repeat constructor)
 have hjl := (List.getElem?_eq_some_iff.1 he).1
 have hperm : List.Perm ((pre ++ [e]) ++ left.eraseIdx j) M := by
   refine List.Perm.trans ?_ hs
   rw [List.append_assoc]
   exact List.Perm.append_left pre (l_erase_perm he)
 have hlt : (left.eraseIdx j).length < left.length := by
   rw [List.length_eraseIdx_of_lt hjl]; omega
 have hpl : pre.length + left.length = M.length := by have := hs.length_eq; simpa using this
 have heM : e ∈ M := hs.subset (List.mem_append_right _ (List.mem_of_getElem? he))
 have hU : Srd (big (M.map atM)) 1 intC e.2.a e.2.xs := Srd.bigs Srd.own (List.mem_map.2 ⟨e, heM, rfl⟩)
 have heb := hMb e heM
 have hrd := lisT_rd hL1 e.1
 have hll : (lisT L1 e.1).xs.length ≤ 800 + pre.length := by
   unfold lisT
   cases h : mget L1 e.1 with
   | none => exact Nat.zero_le _
   | some s => exact hb1 (e.1, s) (mget_mem h)
 refine Lq rfl (pu_extract rfl rfl) (Lnt (Gs.seq (Gs.cond_t rfl (Gs.skip (Gn (Gs.block (Gsr (Lr rfl (ac_entry rfl (by repeat constructor)) ?_))))))))
 refine Lq rfl (pu_extract rfl rfl) (Lq rfl (pu_extract rfl rfl) (Las rfl rfl (Las rfl rfl (Lnt (Gs.regD mixed (by kernel_rfl) (Rmv 0 rfl (by kernel_rfl) rfl (Rq 1 rfl (by kernel_rfl) (by first | exact pu_nil rfl | exact pu_nilF rfl) ?_)))))))
 refine Rq 2 rfl (by kernel_rfl) (pu_fa fa_206_0 rfl) (Rr 3 rfl (by kernel_rfl) (rd_ld na_203 rfl (Rdc.cl1 (by repeat constructor) rfl)) ?_)
 refine Rmv 4 rfl (by kernel_rfl) rfl (Rmv 5 rfl (by kernel_rfl) rfl (Rq 6 rfl (by kernel_rfl) (by first | exact pu_nil rfl | exact pu_nilF rfl) ?_))
 refine Rq 7 rfl (by kernel_rfl) (pu_fa fa_206_0 rfl) (Rr 8 rfl (by kernel_rfl) (rd_ld na_203 rfl (Rdc.cl1 (by repeat constructor) rfl)) ?_)
 refine Rmv 9 rfl (by kernel_rfl) rfl (Rr 10 rfl (by kernel_rfl) (rd_look1 Tryz.underlying203 kt_9 zvk_216 rfl rfl (by repeat constructor)) ?_)
 refine Rq 11 rfl (by kernel_rfl) (pu_fa fa_50_0 rfl) (Rr 12 rfl (by kernel_rfl) (rd_lda ag_35 rfl (Rdc.cl 2 (by repeat constructor) rfl) rfl) ?_)
 refine Rmv 13 rfl (by kernel_rfl) rfl (Rq 14 rfl (by kernel_rfl) (pu_build bd_219 (by repeat constructor) rfl) ?_)
 refine Rg.one (by kernel_rfl) (Stp.acR 15 [3] rfl rfl (by kernel_rfl) trivial (asC (Ct.two (pput_spec (S := two S1 (big (M.map atM))) (a := (lisT L1 e.1).a) (c := (lisT L1 e.1).c) (ps := (lisT L1 e.1).xs) (p := ⟨r.key, e.2⟩) hrd.1.l hrd.2 (Srd.two2 hU) (by dsimp only; omega)) (by rintro _ _ ⟨_, _, _, _, _, rfl⟩; exact ⟨_, rfl⟩))) (by rintro _ _ ⟨_, ⟨_, ⟨da, dc, qs, rfl, hq, ⟨⟩⟩, rfl⟩, rfl⟩; exact (Reads.cons rfl rfl rfl trivial rfl (rd_ld na_203 rfl (Rdc.cl1 (by repeat constructor) rfl)) Reads.nil)) ?_)
 rintro _ _ ⟨_, ⟨_, ⟨da, dc, qs, rfl, hq, ⟨⟩⟩, rfl⟩, rfl⟩
 refine Rg.one (by kernel_rfl) (Stp.ac0 16 rfl rfl (by kernel_rfl) trivial (ac_put (encv := slV) (k := e.1) (v := (⟨da, qs, dc⟩ : SlV PostV)) Tryz.underlying203 kt_9 rfl rfl rfl (by repeat constructor))  ?_)
 rintro _ _ rfl
 refine Rg.end (by kernel_rfl) ?_
 have hqe : plain1 qs = putP ((mget (plL L1) e.1).getD []) (r.key, e.2.xs) := by rw [hq, plL_get]; rfl
 have hql : qs.length ≤ 800 + (pre.length + 1) := by
   have h1 := congrArg List.length hqe
   have h2 := putP_le ((mget (plL L1) e.1).getD []) (r.key, e.2.xs)
   rw [plL_get] at h1 h2
   simp only [List.length_map] at h1 h2
   omega
 have hqb : ∀ q ∈ qs, q.t.xs.length ≤ 1000 := fun q hqm => by
   have : q.p ∈ plain1 qs := List.mem_map.2 ⟨q, hqm, rfl⟩
   rw [hqe] at this
   rcases putP_sub this with h | h
   · have h2 : q.t.xs = e.2.xs := congrArg Prod.snd h
     rw [h2]; omega
   · rw [plL_get] at h
     obtain ⟨y, hy, hye⟩ := List.mem_map.1 h
     have h2 : y.t.xs = q.t.xs := congrArg Prod.snd hye
     rw [← h2]; exact hL1.at e.1 y hy
 have hL3 := hL1.put (w := e.1) (a := da) (c := dc) hqb (by omega)
 have hpl3 : plL (mput L1 e.1 ⟨da, qs, dc⟩) = (mm (fun s : SlV Int => s.xs) (pre ++ [e])).foldl (putW r.key) (plL L) := by
   rw [mm, List.map_append, List.foldl_append, ← mm, ← hst, plL, mm_put, ← plL]
   show mput (plL L1) e.1 (plain1 qs) = _
   rw [hqe]; rfl
 have hb3 : ∀ p ∈ mput L1 e.1 ⟨da, qs, dc⟩, p.2.xs.length ≤ 800 + (pre ++ [e]).length := fun p hp => by
   rw [List.length_append]
   rcases mem_put hp with rfl | hp
   · exact hql
   · have := hb1 p hp; simp; omega
 refine Gs.blk_n (Gn ?_)
 exact Gs.takes (As := [S1, plO da dc qs]) (by repeat constructor) (Gs.toTwo (Ag (pre ++ [e], left.eraseIdx j, some e, mput L1 e.1 ⟨da, qs, dc⟩, two S1 (plO da dc qs)) ⟨hperm, hpl3, hL3, hW1.l, hb3⟩ hlt))
end Go.Proofs.YtflfhpokmidnmaaGreatDoor
namespace Go.Ix
open Go Go.Sl Go.Gv Go.Kv Go.Po Go.Bst
end Go.Ix
namespace Go.Sl
open Go
variable {w0 w : World} {M : List HProp}
end Go.Sl
namespace Go.Proofs.YtflfhpokmidnmaaGreatDoor
open Go Go.Sl Go.Gv Go.Kv Go.Po Go.Ix Go.Bst
set_option maxRecDepth 100000
end Go.Proofs.YtflfhpokmidnmaaGreatDoor
namespace Go.Ix
open Go Go.Sl Go.Gv Go.Kv Go.Po Go.Bst
end Go.Ix
namespace Go.Sl
open Go Go.Kv
section
variable {P : Program} {n : Nat} {w0 : World} {env : Env} {H : List HProp} {κ ν : Type}
end
end Go.Sl
namespace Go.Proofs.YtflfhpokmidnmaaGreatDoor
open Go Go.Sl Go.Gv Go.Kv Go.Po Go.Ix Go.Bst
set_option maxRecDepth 100000
end Go.Proofs.YtflfhpokmidnmaaGreatDoor
namespace Go.Ix
open Go Go.Sl Go.Gv Go.Kv Go.Po Go.Bst
theorem snoc_ind {α : Type} {P : List α → Prop} (h0 : P []) (hs : ∀ l x, P l → P (l ++ [x])) (l : List α) : P l := by
 rw [← l.reverse_reverse]
 induction l.reverse with
 | nil => exact h0
 | cons x m ih => rw [List.reverse_cons]; exact hs _ _ ih
section
variable {κ α : Type} [DecidableEq κ]
theorem mget_perm {m n : List (κ × α)} (hm : (mkeys m).Nodup) (p : List.Perm m n) (k : κ) : mget m k = mget n k := by
 have hn : (mkeys n).Nodup := (p.map _).nodup_iff.1 hm
 cases h : mget m k with
 | some v => exact (mget_of_mem hn (p.subset (mget_mem h))).symm
 | none =>
   cases h2 : mget n k with
   | none => rfl
   | some v => rw [mget_of_mem hm (p.symm.subset (mget_mem h2))] at h; cases h
end
def atsOf (T : List WordP) (w : ByteArray) : List Int := (T.filter fun p => decide (p.1 = w)).map Prod.snd
theorem posL_snoc (T : List WordP) (p : WordP) : posL (T ++ [p]) = posStep (posL T) p := by unfold posL; rw [List.foldl_append]; rfl
theorem atsOf_snoc (T : List WordP) (p : WordP) (w : ByteArray) : atsOf (T ++ [p]) w = if w = p.1 then atsOf T w ++ [p.2] else atsOf T w := by
 unfold atsOf
 rw [List.filter_append, List.map_append]
 by_cases h : w = p.1
 · subst h; simp
 · rw [if_neg h, List.filter_cons_of_neg (by simpa using fun e : p.1 = w => h e.symm)]; simp
theorem posL_get (T : List WordP) (w : ByteArray) : mget (posL T) w = if atsOf T w = [] then none else some (atsOf T w) := by
 refine snoc_ind (P := fun T => mget (posL T) w = if atsOf T w = [] then none else some (atsOf T w)) rfl (fun T p ih => ?_) T
 rw [posL_snoc, posStep, mget_put, atsOf_snoc]
 by_cases h : w = p.1
 · subst h
   have e : (mget (posL T) p.1).getD [] = atsOf T p.1 := by
     rw [ih]; split
     · rename_i e; rw [e]; rfl
     · rfl
   rw [if_pos rfl, if_pos rfl, e, if_neg (by simp)]
 · rw [if_neg h, if_neg h, ih]
theorem posL_nodup (T : List WordP) : (mkeys (posL T)).Nodup :=
 snoc_ind (P := fun T => (mkeys (posL T)).Nodup) List.nodup_nil (fun T p ih => by rw [posL_snoc, posStep]; exact nodup_put ih _ _) T
theorem rises_pw : ∀ {l : List Int} {a : Int}, (∀ x ∈ l, a < x) → l.Pairwise (· < ·) → risesFrom a l = true
 | [], _, _, _ => rfl
 | n :: l, a, h, hp => by
   have hp' := List.pairwise_cons.1 hp
   unfold risesFrom
   rw [decide_eq_true (h n (by simp)), Bool.true_and]
   exact rises_pw hp'.1 hp'.2
def UpT (T : List WordP) : Prop := T.Pairwise (fun p q => p.2 < q.2) ∧ ∀ p ∈ T, 0 ≤ p.2
theorem ats_up {T : List WordP} (h : UpT T) (w : ByteArray) : (atsOf T w).Pairwise (· < ·) ∧ ∀ x ∈ atsOf T w, 0 ≤ x := by
 unfold atsOf
 refine ⟨?_, fun x hx => ?_⟩
 · rw [List.pairwise_map]
   exact List.Pairwise.filter _ h.1
 · obtain ⟨p, hp, rfl⟩ := List.mem_map.1 hx
   exact h.2 p (List.mem_filter.1 hp).1
theorem posL_rises {T : List WordP} (h : UpT T) {w : ByteArray} {l : List Int} (hl : mget (posL T) w = some l) : risesB l = true := by
 rw [posL_get] at hl
 split at hl
 · cases hl
 · rename_i hne
   cases hl
   unfold risesB
   rw [decide_eq_true hne, Bool.and_true]
   exact rises_pw (fun x hx => by have := (ats_up h w).2 x hx; omega) (ats_up h w).1
theorem fold_putW (k : Key) : ∀ (es : List (ByteArray × List Int)) (P : PL), (mkeys es).Nodup → ∀ w, mget (es.foldl (putW k) P) w = match mget es w with
   | none => mget P w
   | some at' => some (putP ((mget P w).getD []) (k, at'))
 | [], _, _, _ => rfl
 | e :: es, P, hn, w => by
   have hn' := List.nodup_cons.1 hn
   rw [List.foldl_cons, fold_putW k es _ hn'.2 w]
   have he : mget (e :: es) w = if w = e.1 then some e.2 else mget es w := by
     obtain ⟨a, b⟩ := e; rfl
   rw [he]
   by_cases h : w = e.1
   · subst h
     rw [if_pos rfl, mget_none.2 hn'.1]
     show mget (mput P e.1 _) e.1 = _
     rw [mget_put, if_pos rfl]
   · have h2 : mget (putW k P e) w = mget P w := by
       show mget (mput P e.1 _) w = _
       rw [mget_put, if_neg h]
     rw [if_neg h, h2]
theorem fold_putW_nodup (k : Key) : ∀ (es : List (ByteArray × List Int)) (P : PL), (mkeys P).Nodup → (mkeys (es.foldl (putW k) P)).Nodup
 | [], _, h => h
 | e :: es, P, h => fold_putW_nodup k es _ (nodup_put h _ _)
end Go.Ix
namespace Go.Proofs.YtflfhpokmidnmaaGreatDoor
open Go Go.Sl Go.Gv Go.Kv Go.Po Go.Ix Go.Bst
abbrev tok (r : Rec) : List (ByteArray × List Int) := posL (toksV r.t)
theorem toks_up : ∀ (l : List ByteArray) (i : Nat), (toksOf l i).Pairwise (fun p q => p.2 < q.2) ∧ ∀ p ∈ toksOf l i, (i : Int) ≤ p.2
 | [], _ => ⟨List.Pairwise.nil, fun _ h => by cases h⟩
 | w :: l, i => by
   obtain ⟨h1, h2⟩ := toks_up l (i + 1)
   have e : toksOf (w :: l) i = (w, (i : Int)) :: toksOf l (i + 1) := by unfold toksOf; rw [List.zipIdx_cons]; rfl
   rw [e]
   refine ⟨List.pairwise_cons.2 ⟨fun q hq => ?_, h1⟩, fun p hp => ?_⟩
   · have := h2 q hq; show (i : Int) < q.2; omega
   · rcases List.mem_cons.1 hp with rfl | hp
     · exact Int.le_refl _
     · have := h2 p hp; omega
theorem up_toks (s : ByteArray) : UpT (toksV s) := ⟨(toks_up _ 0).1, fun p hp => by have := (toks_up _ 0).2 p hp; omega⟩
structure IxIs (rs : List Rec) (s : PL × PW) : Prop where
 keys : (rs.map Rec.key).Nodup
 ln : (mkeys s.1).Nodup
 wn : (mkeys s.2).Nodup
 ws : ∀ k l, mget s.2 k = some l ↔ ∃ r ∈ rs, r.key = k ∧ l = sortB (mkeys (tok r))
 mem : ∀ w l, mget s.1 w = some l → l ≠ [] ∧ mayB l = true ∧ ∀ p, p ∈ l ↔ ∃ r ∈ rs, p.1 = r.key ∧ mget (tok r) w = some p.2
 non : ∀ w, mget s.1 w = none → ∀ r ∈ rs, mget (tok r) w = none
theorem IxIs.nil : IxIs [] ([], []) := ⟨List.nodup_nil, List.nodup_nil, List.nodup_nil, fun k l => ⟨fun h => (by cases h), fun ⟨r, h, _⟩ => (by cases h)⟩, fun w l h => (by cases h), fun w _ r h => (by cases h)⟩
theorem IxIs.getD {rs : List Rec} {s : PL × PW} (h : IxIs rs s) (w : ByteArray) : mayB ((mget s.1 w).getD []) = true ∧ ∀ p, p ∈ (mget s.1 w).getD [] ↔ ∃ r ∈ rs, p.1 = r.key ∧ mget (tok r) w = some p.2 := by
 cases hm : mget s.1 w with
 | none => exact ⟨rfl, fun p => ⟨fun hp => (by cases hp), fun ⟨r, hr, _, h2⟩ => (by rw [h.non w hm r hr] at h2; cases h2)⟩⟩
 | some l => exact (h.mem w l hm).2
theorem put_mem {L : List PostP} {x : PostP} (hm : mayB L = true) (hx : risesB x.2 = true) (hf : ∀ p ∈ L, p.1 ≠ x.1) (p : PostP) : p ∈ putP L x ↔ p = x ∨ p ∈ L := by
 rw [put_is hm hx]
 simp only [List.mem_append, List.mem_filter, List.mem_cons, List.not_mem_nil, or_false]
 refine ⟨fun h => ?_, fun h => ?_⟩
 · rcases h with (h | h) | h
   · exact .inr h.1
   · exact .inl h
   · exact .inr h.1
 · rcases h with h | h
   · exact .inl (.inr h)
   · rcases before_total (hf p h) with e | e
     · exact .inl (.inl ⟨h, e⟩)
     · exact .inr ⟨h, e⟩
theorem IxIs.put {rs : List Rec} {s : PL × PW} (h : IxIs rs s) {r : Rec} (hn : r.key ∉ rs.map Rec.key) {es : List (ByteArray × List Int)} (hp : List.Perm es (tok r)) :
   IxIs (rs ++ [r]) (es.foldl (putW r.key) s.1, mput s.2 r.key (sortB (mkeys (tok r)))) := by
 have hes : (mkeys es).Nodup := (hp.map _).nodup_iff.2 (posL_nodup _)
 have hg : ∀ w, mget (es.foldl (putW r.key) s.1) w = match mget (tok r) w with | none => mget s.1 w | some at' => some (putP ((mget s.1 w).getD []) (r.key, at')) := fun w => by
   rw [fold_putW r.key es s.1 hes w, mget_perm hes hp w]
 refine ⟨?_, fold_putW_nodup _ _ _ h.ln, nodup_put h.wn _ _, fun k l => ?_, fun w l hl => ?_, fun w hl => ?_⟩
 · rw [List.map_append, List.nodup_append]
   exact ⟨h.keys, by simp, fun a ha b hb => by simp at hb; subst hb; exact fun e => hn (e ▸ ha)⟩
 · show mget (mput s.2 r.key _) k = some l ↔ _
   rw [mget_put]
   by_cases e : k = r.key
   · subst e
     rw [if_pos rfl]
     constructor
     · intro hh; cases hh; exact ⟨r, by simp, rfl, rfl⟩
     · rintro ⟨r', hr', hk, rfl⟩
       rcases List.mem_append.1 hr' with hr' | hr'
       · exact (hn (hk ▸ List.mem_map.2 ⟨r', hr', rfl⟩)).elim
       · rw [List.mem_singleton.1 hr']
   · rw [if_neg e, h.ws]
     constructor
     · rintro ⟨r', hr', h1, h2⟩; exact ⟨r', by simp [hr'], h1, h2⟩
     · rintro ⟨r', hr', h1, h2⟩
       rcases List.mem_append.1 hr' with hr' | hr'
       · exact ⟨r', hr', h1, h2⟩
       · rw [List.mem_singleton.1 hr'] at h1; exact (e h1.symm).elim
 · change mget (es.foldl (putW r.key) s.1) w = some l at hl
   rw [hg] at hl
   obtain ⟨hm, hmem⟩ := h.getD w
   cases ht : mget (tok r) w with
   | none =>
     rw [ht] at hl
     obtain ⟨h1, h2, h3⟩ := h.mem w l hl
     refine ⟨h1, h2, fun p => (h3 p).trans ⟨fun ⟨r', hr', h4, h5⟩ => ⟨r', by simp [hr'], h4, h5⟩, fun ⟨r', hr', h4, h5⟩ => ?_⟩⟩
     rcases List.mem_append.1 hr' with hr' | hr'
     · exact ⟨r', hr', h4, h5⟩
     · rw [List.mem_singleton.1 hr', ht] at h5; cases h5
   | some at' =>
     rw [ht] at hl
     have hr := posL_rises (up_toks r.t) ht
     cases hl
     have hf : ∀ p ∈ (mget s.1 w).getD [], p.1 ≠ (r.key, at').1 := fun p hp e => by
       obtain ⟨r', hr', h4, -⟩ := (hmem p).1 hp
       exact hn (List.mem_map.2 ⟨r', hr', by rw [← h4]; exact e⟩)
     have hpm := put_mem hm (x := (r.key, at')) hr hf
     refine ⟨fun e => ?_, put_may hm hr, fun p => ?_⟩
     · have := (hpm (r.key, at')).2 (.inl rfl); rw [e] at this; cases this
     · rw [hpm, hmem]
       constructor
       · rintro (rfl | ⟨r', hr', h4, h5⟩)
         · exact ⟨r, by simp, rfl, ht⟩
         · exact ⟨r', by simp [hr'], h4, h5⟩
       · rintro ⟨r', hr', h4, h5⟩
         rcases List.mem_append.1 hr' with hr' | hr'
         · exact .inr ⟨r', hr', h4, h5⟩
         · rw [List.mem_singleton.1 hr'] at h4 h5
           rw [ht] at h5
           exact .inl (Prod.ext h4 (Option.some.inj h5).symm)
 · change mget (es.foldl (putW r.key) s.1) w = none at hl
   rw [hg] at hl
   cases ht : mget (tok r) w with
   | none =>
     rw [ht] at hl
     intro r' hr'
     rcases List.mem_append.1 hr' with hr' | hr'
     · exact h.non w hl r' hr'
     · rw [List.mem_singleton.1 hr']; exact ht
   | some at' => rw [ht] at hl; cases hl
theorem key_inj {rs : List Rec} (h : (rs.map Rec.key).Nodup) {a b : Rec} (ha : a ∈ rs) (hb : b ∈ rs) (e : a.key = b.key) : a = b := by
 induction rs with
 | nil => cases ha
 | cons x l ih =>
   have h' := List.nodup_cons.1 h
   rcases List.mem_cons.1 ha with h1 | h1
   · rcases List.mem_cons.1 hb with h2 | h2
     · rw [h1, h2]
     · exact (h'.1 (List.mem_map.2 ⟨b, h2, by rw [← e, h1]⟩)).elim
   · rcases List.mem_cons.1 hb with h2 | h2
     · exact (h'.1 (List.mem_map.2 ⟨a, h1, by rw [e, h2]⟩)).elim
     · exact ih h'.2 h1 h2
theorem IxIs.wkeys {rs : List Rec} {s : PL × PW} (h : IxIs rs s) : List.Perm (mkeys s.2) (rs.map Rec.key) := by
 rw [List.perm_ext_iff_of_nodup h.wn h.keys]
 intro k
 have := mget_none (m := s.2) (k := k)
 constructor
 · intro hk
   cases hm : mget s.2 k with
   | none => exact ((this.1 hm) hk).elim
   | some l => obtain ⟨r, hr, h1, -⟩ := (h.ws k l).1 hm; exact List.mem_map.2 ⟨r, hr, h1⟩
 · intro hk
   obtain ⟨r, hr, rfl⟩ := List.mem_map.1 hk
   have := mget_mem ((h.ws r.key _).2 ⟨r, hr, rfl, rfl⟩)
   exact List.mem_map.2 ⟨_, this, rfl⟩
theorem IxIs.has {rs : List Rec} {s : PL × PW} (h : IxIs rs s) (k : Key) : (mget s.2 k).isSome = decide (k ∈ rs.map Rec.key) := by
 rw [← decide_eq_decide.2 (h.wkeys.mem_iff (a := k))]
 have := mget_none (m := s.2) (k := k)
 cases hm : mget s.2 k with
 | none => exact (decide_eq_false (this.1 hm)).symm
 | some l => exact (decide_eq_true (Classical.byContradiction fun hc => by rw [this.2 hc] at hm; cases hm)).symm
def putR (rs : List Rec) (r : Rec) : List Rec := if recB r && decide (r.key ∉ rs.map Rec.key) then rs ++ [r] else rs
theorem IxIs.putN {rs : List Rec} {s : PL × PW} (h : IxIs rs s) (r : Rec) : YtflfhpokmidnmaaGreatDoor.putN s.2 r = if recB r then (if r.key ∈ rs.map Rec.key then 6 else 0) else 2 := by
 unfold YtflfhpokmidnmaaGreatDoor.putN
 rw [h.has]
 by_cases e : r.key ∈ rs.map Rec.key <;> simp [e]
theorem IxIs.putI {rs : List Rec} {s s' : PL × PW} (h : IxIs rs s) {r : Rec} (hp : PutI r (toksV r.t) s s') : IxIs (putR rs r) s' := by
 unfold PutI at hp
 rw [h.putN] at hp
 unfold putR
 by_cases hr : recB r = true
 · by_cases hk : r.key ∈ rs.map Rec.key
   · rw [if_pos hr, if_pos hk, if_neg (by decide)] at hp
     rw [if_neg (by simp [hk]), hp]; exact h
   · rw [if_pos hr, if_neg hk, if_pos rfl] at hp
     obtain ⟨es, hes, rfl⟩ := hp
     rw [if_pos (by simp [hr, hk])]
     exact h.put hk hes
 · rw [if_neg hr, if_neg (by decide)] at hp
   rw [if_neg (by simp [hr]), hp]; exact h
end Go.Proofs.YtflfhpokmidnmaaGreatDoor
namespace Go.Ix
open Go Go.Sl Go.Gv Go.Kv Go.Po Go.Bst
theorem nodup_sub {α : Type} [BEq α] [LawfulBEq α] : ∀ {l m : List α}, l.Nodup → (∀ x ∈ l, x ∈ m) → l.length ≤ m.length
 | [], _, _, _ => Nat.zero_le _
 | a :: l, m, hn, h => by
   have hn' := List.nodup_cons.1 hn
   have ha := h a List.mem_cons_self
   have hp := List.perm_cons_erase ha
   have := nodup_sub (m := m.erase a) hn'.2 fun x hx => by
     have hx2 := hp.subset (h x (List.mem_cons_of_mem _ hx))
     rcases List.mem_cons.1 hx2 with e | e
     · exact (hn'.1 (e ▸ hx)).elim
     · exact e
   have hl := hp.length_eq
   simp only [List.length_cons] at hl ⊢
   omega
end Go.Ix
namespace Go.Proofs.YtflfhpokmidnmaaGreatDoor
open Go Go.Sl Go.Gv Go.Kv Go.Po Go.Ix Go.Bst
set_option maxRecDepth 100000
theorem IxIs.lists {rs : List Rec} {s : PL × PW} (h : IxIs rs s) {w : ByteArray} {l : List PostP} (hm : mget s.1 w = some l) : l.length ≤ rs.length := by
 obtain ⟨-, h2, h3⟩ := h.mem w l hm
 have nd : (l.map Prod.fst).Nodup := by
   have := may_asc h2
   exact this.imp fun {a b} hab e => by rw [e, before_irr] at hab; cases hab
 have := nodup_sub (m := rs.map Rec.key) nd fun k hk => by
   obtain ⟨p, hp, rfl⟩ := List.mem_map.1 hk
   obtain ⟨r, hr, h4, -⟩ := (h3 p).1 hp
   exact List.mem_map.2 ⟨r, hr, h4.symm⟩
 simpa using this
theorem IxIs.short {rs : List Rec} {L : List (ByteArray × SlV PostV)} {W : List (Key × SlV ByteArray)} (h : IxIs rs (plL L, plW W)) : ∀ p ∈ L, p.2.xs.length ≤ rs.length := fun p hp => by
 have hn : (mkeys L).Nodup := by have := h.ln; simpa [plL, mm, mkeys, Function.comp_def] using this
 have hm := mget_of_mem hn (show (p.1, p.2) ∈ L from hp)
 have := h.lists (w := p.1) (l := plain1 p.2.xs) (by show mget (plL L) p.1 = _; rw [plL, mm_get, hm]; rfl)
 simpa using this
theorem putR_len (rs : List Rec) (r : Rec) : (putR rs r).length ≤ rs.length + 1 := by unfold putR; split <;> simp
end Go.Proofs.YtflfhpokmidnmaaGreatDoor
namespace Go.Qu
open Go Go.Sl Go.Gv Go.Ix
inductive AskV where
 | mk (kind n : Int) (w : SlV ByteArray) (sa : Option Addr) (sc : Nat) (ss : List AskV)
end Go.Qu
namespace Go.Proofs.YtflfhpokmidnmaaGreatDoor
open Go Go.Sl Go.Gv Go.Ix Go.Qu
set_option maxRecDepth 100000
end Go.Proofs.YtflfhpokmidnmaaGreatDoor
namespace Go.Qu
open Go Go.Sl Go.Gv Go.Ix
end Go.Qu
namespace Go.Proofs.YtflfhpokmidnmaaGreatDoor
open Go Go.Sl Go.Gv Go.Kv Go.Po Go.Ix Go.Qu
set_option maxRecDepth 100000
end Go.Proofs.YtflfhpokmidnmaaGreatDoor
namespace Go.Qu
open Go Go.Sl Go.Gv Go.Ix
end Go.Qu
namespace Go.Proofs.YtflfhpokmidnmaaGreatDoor
open Go Go.Sl Go.Gv Go.Kv Go.Po Go.Ix Go.Qu
set_option maxRecDepth 100000
end Go.Proofs.YtflfhpokmidnmaaGreatDoor
namespace Go.Ix
open Go Go.Lib
end Go.Ix
namespace Go.Proofs.YtflfhpokmidnmaaGreatDoor
open Go Go.Sl Go.Gv Go.Kv Go.Po Go.Ix
end Go.Proofs.YtflfhpokmidnmaaGreatDoor
namespace Go.Sl
open Go
section
variable {P : Program} {w0 : World} {env : Env} {H : List HProp} {d : Option Tmp} {x : Operand} {src dst e ty : TypeId} {pos : String} {af : Array Edge} {g : Option (Nat × Bool)}
end
end Go.Sl
namespace Go.Ix
open Go Go.Lib
end Go.Ix
namespace Go.Proofs.YtflfhpokmidnmaaGreatDoor
open Go Go.Sl Go.Gv Go.Kv Go.Po Go.Ix
set_option maxRecDepth 100000
end Go.Proofs.YtflfhpokmidnmaaGreatDoor
namespace Go.Proofs.YtflfhpokmidnmaaGreatDoor
open Go Go.Sl Go.Gv Go.Kv Go.Po Go.Ix
set_option maxRecDepth 100000
end Go.Proofs.YtflfhpokmidnmaaGreatDoor
namespace Go.Proofs
open Go.Shelf
end Go.Proofs
namespace Go.Ix
open Go Go.Sl Go.Gv
end Go.Ix
namespace Go.Proofs.YtflfhpokmidnmaaGreatDoor
open Go Go.Sl Go.Gv Go.Kv Go.Po Go.Ix Go.Qu Go.Shelf
set_option maxRecDepth 100000
end Go.Proofs.YtflfhpokmidnmaaGreatDoor
namespace Go.Sl
open Go
def Inn (B U : HProp) : Prop := ∃ A, ∀ w0 w R, Sat w0 w (U :: R) ↔ Sat w0 w (B :: A :: R)
theorem Inn.two1 {A B : HProp} : Inn A (two A B) := ⟨B, fun _ _ _ => Sat.two⟩
theorem Inn.two2 {A B : HProp} : Inn B (two A B) := ⟨A, fun _ _ _ => ⟨fun s => (Sat.two.1 s).take (.tl .hd), fun s => Sat.two.2 (s.take (.tl .hd))⟩⟩
theorem Inn.mem {B : HProp} {L : List HProp} (h : B ∈ L) : Inn B (big L) := by
 obtain ⟨i, hi⟩ := List.mem_iff_getElem?.1 h
 exact ⟨big (L.eraseIdx i), fun _ _ _ => ⟨fun s => s.bigTake (take_at hi), fun s => s.bigBack (take_at hi)⟩⟩
theorem Ct.inn {P : Program} {f : FuncId} {args : List Value} {B U : HProp} {post : Value → List HProp → Prop} (c : Ct P f args [B] post) (i : Inn B U) (h : ∀ v hs, post v hs → ∃ r, hs = B :: r) : Ct P f args [U] (fun v hs => ∃ r, post v (B :: r) ∧ hs = U :: r) := by
 obtain ⟨A, hA⟩ := i
 refine ⟨c.enters, fun w0 w R s => (c.calls w0 w (A :: R) ((hA _ _ _).1 s)).mono fun _ _ ⟨v, hs, he, hp, hsat⟩ => ?_⟩
 obtain ⟨r, rfl⟩ := h v hs hp
 refine ⟨v, U :: r, he, ⟨r, hp, rfl⟩, (hA _ _ _).2 ?_⟩
 have h1 : Sat w0 _ ((B :: r) ++ A :: R) := hsat
 have h2 := h1.take (take_mid (L1 := B :: r) (L2 := R))
 exact h2.take (.tl .hd)
theorem Ct.inn0 {P : Program} {f : FuncId} {args : List Value} {B U : HProp} {x : Value} (c : Ct P f args [B] (fun v hs => v = x ∧ hs = [B])) (i : Inn B U) : Ct P f args [U] (fun v hs => v = x ∧ hs = [U]) :=
 (c.inn i fun _ _ h => ⟨[], h.2⟩).mono fun v hs ⟨r, ⟨h1, h2⟩, h3⟩ => ⟨h1, by cases h2; exact h3⟩
end Go.Sl
namespace Go.Proofs.YtflfhpokmidnmaaGreatDoor
open Go Go.Sl Go.Gv Go.Kv Go.Po Go.Ix Go.Qu Go.Shelf
set_option maxRecDepth 100000
def TabU (U : HProp) : Prop := ∃ h0, TabX h0 ∧ Inn (Sl.ro h0) U
end Go.Proofs.YtflfhpokmidnmaaGreatDoor
namespace Go.Qu
open Go Go.Sl Go.Gv Go.Ix
variable {odd : ByteArray → Bool} {a : AskV} {d : Nat}
end Go.Qu
namespace Go.Proofs.YtflfhpokmidnmaaGreatDoor
open Go Go.Sl Go.Gv Go.Kv Go.Po Go.Ix Go.Qu Go.Shelf
set_option maxRecDepth 100000
end Go.Proofs.YtflfhpokmidnmaaGreatDoor
namespace Go.Qu
open Go Go.Sl Go.Gv Go.Ix
end Go.Qu
namespace Go.Proofs.YtflfhpokmidnmaaGreatDoor
open Go Go.Sl Go.Gv Go.Kv Go.Po Go.Ix Go.Qu Go.Shelf
set_option maxRecDepth 100000
end Go.Proofs.YtflfhpokmidnmaaGreatDoor
namespace Go.Proofs.YtflfhpokmidnmaaGreatDoor
open Go Go.Sl Go.Gv Go.Kv Go.Po Go.Ix Go.Qu Go.Shelf
set_option maxRecDepth 100000
end Go.Proofs.YtflfhpokmidnmaaGreatDoor
namespace Go.Proofs
open Go.Shelf
namespace YtflfhpokmidnmaaGreatDoor
open Go Go.Sl Go.Gv Go.Kv Go.Sort Go.Po
set_option maxRecDepth 100000
end YtflfhpokmidnmaaGreatDoor
end Go.Proofs
namespace Go.Proofs
open Go.Shelf
namespace YtflfhpokmidnmaaGreatDoor
open Go Go.Sl Go.Gv Go.Kv Go.Sort Go.Po
set_option maxRecDepth 100000
end YtflfhpokmidnmaaGreatDoor
end Go.Proofs
namespace Go.Proofs.YtflfhpokmidnmaaGreatDoor
open Go Go.Sl Go.Gv Go.Po
set_option maxRecDepth 100000
end Go.Proofs.YtflfhpokmidnmaaGreatDoor
namespace Go.Po
open Go Go.Sl Go.Gv
abbrev AscK (l : List Key) : Prop := l.Pairwise fun a b => before a b = true
end Go.Po
namespace Go.Proofs.YtflfhpokmidnmaaGreatDoor
open Go Go.Sl Go.Gv Go.Po
end Go.Proofs.YtflfhpokmidnmaaGreatDoor
namespace Go.Ix
open Go Go.Sl Go.Gv Go.Kv Go.Po Go.Bst
end Go.Ix
namespace Go.Proofs.YtflfhpokmidnmaaGreatDoor
open Go Go.Sl Go.Gv Go.Kv Go.Po Go.Ix Go.Bst
end Go.Proofs.YtflfhpokmidnmaaGreatDoor
namespace Go.Qu
open Go Go.Sl Go.Gv Go.Kv Go.Po Go.Ix
end Go.Qu
namespace Go.Proofs.YtflfhpokmidnmaaGreatDoor
open Go Go.Sl Go.Gv Go.Kv Go.Po Go.Ix Go.Bst Go.Qu
section
variable {rs : List Rec} {f g : Rec → Bool} {ks ls : List Key}
end
end Go.Proofs.YtflfhpokmidnmaaGreatDoor
namespace Go.Qu
open Go Go.Sl Go.Gv Go.Ix
section
variable {pre : ByteArray → ByteArray → Bool} {r : Rec} {ws : List ByteArray} {d : Nat} {a : AskV}
end
end Go.Qu
namespace Go.Proofs.YtflfhpokmidnmaaGreatDoor
open Go Go.Sl Go.Gv Go.Kv Go.Po Go.Ix Go.Bst Go.Qu
end Go.Proofs.YtflfhpokmidnmaaGreatDoor
namespace Go.Sl
open Go
section
variable {P : Program} {env : Env} {d : Option Tmp} {x z : Operand} {T ty : TypeId} {pos : String} {af : Array Edge} {g : Option (Nat × Bool)}
end
end Go.Sl
namespace Go.Qu
open Go Go.Sl Go.Gv Go.Ix
end Go.Qu
namespace Go.Ix
open Go Go.Sl Go.Gv Go.Kv Go.Po Go.Bst
end Go.Ix
namespace Go.Proofs.YtflfhpokmidnmaaGreatDoor
open Go Go.Sl Go.Gv Go.Kv Go.Po Go.Ix Go.Qu Go.Shelf
set_option maxRecDepth 100000
end Go.Proofs.YtflfhpokmidnmaaGreatDoor
namespace Go.Sl
open Go
theorem Ct.inn2 {P : Program} {f : FuncId} {args : List Value} {A B U : HProp} {φ : Value → HProp → Prop} (c : Ct P f args [A, B] (fun v hs => ∃ A', φ v A' ∧ hs = [A', B])) (i : Inn B U) : Ct P f args [A, U] (fun v hs => ∃ A', φ v A' ∧ hs = [A', U]) := by
 obtain ⟨X, hX⟩ := i
 refine ⟨c.enters, fun w0 w R s => ?_⟩
 have s1 : Sat w0 w (U :: A :: R) := Sat.take (A := U) s (.tl .hd)
 have s2 : Sat w0 w (A :: B :: X :: R) := ((hX _ _ _).1 s1).takes (As := [A, B]) (.cons (.tl (.tl .hd)) (.cons .hd .nil))
 refine (c.calls w0 w (X :: R) s2).mono fun _ _ ⟨v, hs, he, ⟨A', hp, e⟩, hsat⟩ => ⟨v, [A', U], he, ⟨A', hp, rfl⟩, ?_⟩
 subst e
 have s3 : Sat w0 _ (B :: X :: A' :: R) := Sat.takes (As := [B, X]) (L := A' :: B :: X :: R) hsat (.cons (.tl .hd) (.cons (.tl .hd) .nil))
 exact Sat.take (A := A') ((hX _ _ _).2 s3) (.tl .hd)
theorem Ct.twoR {P : Program} {f : FuncId} {args : List Value} {A B C : HProp} {φ : Value → HProp → Prop} (c : Ct P f args [A, Sl.two B C] (fun v hs => ∃ A', φ v A' ∧ hs = [A', Sl.two B C])) : Ct P f args [A, B, C] (fun v hs => ∃ A', φ v A' ∧ hs = [A', B, C]) := by
 refine ⟨c.enters, fun w0 w R s => ?_⟩
 have s1 : Sat w0 w (B :: C :: A :: R) := Sat.takes (As := [B, C]) s (.cons (.tl .hd) (.cons (.tl .hd) .nil))
 have s2 : Sat w0 w (A :: Sl.two B C :: R) := Sat.take (Sat.two.2 s1) (.tl .hd)
 refine (c.calls w0 w R s2).mono fun _ _ ⟨v, hs, he, ⟨A', hp, e⟩, hsat⟩ => ⟨v, [A', B, C], he, ⟨A', hp, rfl⟩, ?_⟩
 subst e
 have s3 : Sat w0 _ (Sl.two B C :: A' :: R) := Sat.take (L := A' :: Sl.two B C :: R) hsat (.tl .hd)
 exact Sat.take (A := A') (Sat.two.1 s3) (.tl (.tl .hd))
end Go.Sl
namespace Go.Proofs.YtflfhpokmidnmaaGreatDoor
open Go Go.Sl Go.Gv Go.Kv Go.Po Go.Ix Go.Qu Go.Shelf
set_option maxRecDepth 100000
def lookR (L : List Rec) (k : Key) : Option Rec := L.find? fun r => r.key = k
def RecM (rs : List Rec) (M : List (Key × Rec)) : Prop := ∀ k r, mget M k = some r ↔ r ∈ rs ∧ r.key = k
theorem RecM.nil : RecM [] [] := fun k r => ⟨fun h => (by cases h), fun h => (by cases h.1)⟩
theorem RecM.put {rs : List Rec} {M : List (Key × Rec)} (h : RecM rs M) {r : Rec} (hn : r.key ∉ rs.map Rec.key) : RecM (rs ++ [r]) (mput M r.key r) := fun k x => by
 rw [mget_put]
 by_cases e : k = r.key
 · rw [if_pos e]
   constructor
   · intro hh; cases hh; exact ⟨by simp, e.symm⟩
   · rintro ⟨hx, hk⟩
     rcases List.mem_append.1 hx with hx | hx
     · exact (hn (by rw [← e, ← hk]; exact List.mem_map.2 ⟨x, hx, rfl⟩)).elim
     · rw [List.mem_singleton.1 hx]
 · rw [if_neg e, h]
   constructor
   · rintro ⟨hx, hk⟩; exact ⟨by simp [hx], hk⟩
   · rintro ⟨hx, hk⟩
     rcases List.mem_append.1 hx with hx | hx
     · exact ⟨hx, hk⟩
     · rw [List.mem_singleton.1 hx] at hk; exact (e hk.symm).elim
theorem lookR_some {L : List Rec} {k : Key} {r : Rec} (h : lookR L k = some r) : r ∈ L ∧ r.key = k := ⟨List.mem_of_find?_eq_some h, of_decide_eq_true (List.find?_some (p := fun r : Rec => decide (r.key = k)) h)⟩
theorem lookR_at {L : List Rec} (hn : (L.map Rec.key).Nodup) {r : Rec} (h : r ∈ L) : lookR L r.key = some r := by
 cases hh : lookR L r.key with
 | some x => rw [key_inj hn (lookR_some hh).1 h (lookR_some hh).2]
 | none => exact absurd (decide_eq_true rfl) (by have := List.find?_eq_none.1 hh r h; exact this)
theorem RecM.get {rs : List Rec} {M : List (Key × Rec)} (hn : (rs.map Rec.key).Nodup) (h : RecM rs M) (k : Key) : mget M k = lookR rs k := by
 cases hm : mget M k with
 | some r =>
   obtain ⟨h1, h2⟩ := (h k r).1 hm
   rw [← h2, lookR_at hn h1]
 | none =>
   cases hl : lookR rs k with
   | none => rfl
   | some r => rw [(h k r).2 (lookR_some hl)] at hm; cases hm
structure ShQ where
 i : Nat
 L : List (ByteArray × SlV PostV)
 W : List (Key × SlV ByteArray)
 m : Nat
 M : List (Key × Rec)
abbrev shC (i m : Nat) : List Value := [ptr i, .map (some m)]
def shA (x : Nat) (rs : List Rec) : HProp := fun h => ∃ q : ShQ, (IxIs rs (plL q.L, plW q.W) ∧ RecM rs q.M) ∧ two (cl x 154 (shC q.i q.m)) (two (ixA q.i q.L q.W) (mp keyV recV q.m q.M)) h
section
variable {w0 : World} {n : Nat} {env : Env} {H : List HProp} {X : Act → World → Prop} {x : Nat} {rs : List Rec}
theorem Gs.sh (g : ∀ i L W m M, IxIs rs (plL L, plW W) → RecM rs M → Gs w0 n env (cl x 154 (shC i m) :: ixA i L W :: mp keyV recV m M :: H) X) : Gs w0 n env (shA x rs :: H) X :=
 Gs.ex (A := fun q : ShQ => fun h => (IxIs rs (plL q.L, plW q.W) ∧ RecM rs q.M) ∧ two (cl x 154 (shC q.i q.m)) (two (ixA q.i q.L q.W) (mp keyV recV q.m q.M)) h)
   fun q => Gs.pure fun hq => Gs.two (fun a w e s => g q.i q.L q.W q.m q.M hq.1 hq.2 a w e (by
     have s2 := Sat.two.1 (s.take (.tl .hd))
     exact Ent.sat (by repeat constructor) s2))
theorem Gs.shc {i : Nat} {L : List (ByteArray × SlV PostV)} {W : List (Key × SlV ByteArray)} {m : Nat} {M : List (Key × Rec)} (h1 : IxIs rs (plL L, plW W)) (h2 : RecM rs M) (g : Gs w0 n env (shA x rs :: H) X) :
   Gs w0 n env (cl x 154 (shC i m) :: ixA i L W :: mp keyV recV m M :: H) X := fun a w e s => g a w e (by
 have s1 : Sat w0 w (ixA i L W :: mp keyV recV m M :: cl x 154 (shC i m) :: H) := Ent.sat (by repeat constructor) s
 have s2 := (Sat.two.2 s1).take (A := cl x 154 (shC i m)) (.tl .hd)
 exact (Sat.two.2 s2).ent fun h hh => ⟨⟨i, L, W, m, M⟩, ⟨h1, h2⟩, hh⟩)
end
theorem snew_spec : Ct Tryz.prog 55 [] [] (fun v hs => ∃ x, v = ptr x ∧ hs = [shA x []]) := by
 refine Cti Tryz.func55 (by kernel_rfl) 5 Tryz.ntmps55 rfl rfl fun w0 R => ?_
 refine Gsr (Las rfl rfl (Lnt (Gsr (La rfl (asC (new_spec)) ?_))))
 rintro _ _ ⟨_, ⟨i, rfl, rfl⟩, rfl⟩
 refine La rfl (ac_mkmap enck_35 encv_50) ?_
 rintro _ _ ⟨m2, rfl, rfl⟩
 refine Lq rfl (pu_build bd_154 (by repeat constructor) rfl) ?_
 refine La rfl (ac_box rfl rfl) ?_
 rintro _ _ ⟨b4, rfl, rfl⟩
 refine Las rfl rfl (Lnt (Gs.ret (Gs.takes (As := [cl b4 154 (shC i m2), ixA i [] [], mp keyV recV m2 ([] : List (Key × Rec))]) (by repeat constructor) (Gs.shc (rs := []) IxIs.nil RecM.nil ?_))))
 exact Gs.fin1 Tryz.results55 rfl _ (⟨b4, rfl, rfl⟩) (by repeat constructor)
theorem put_len (rs : List Rec) : ∀ ys : List Rec, rs.length ≤ (ys.foldl putR rs).length ∧ (ys.foldl putR rs).length ≤ rs.length + ys.length := fun ys => by
 induction ys generalizing rs with
 | nil => exact ⟨Nat.le_refl _, Nat.le_refl _⟩
 | cons y ys ih =>
   have h1 := ih (putR rs y)
   have h2 := putR_len rs y
   have h3 : rs.length ≤ (putR rs y).length := by unfold putR; split <;> simp
   rw [List.foldl_cons, List.length_cons]; omega
theorem sput_spec {S : HProp} (hT : TabU S) (x : Nat) (rs : List Rec) {a : Option Addr} {c : Nat} {ys : List Rec} (hY : Srd S 5 recC a ys) (hl : rs.length + ys.length ≤ 800) :
   Ct Tryz.prog 61 [ptr x, .slice a ys.length c] [shA x rs, S] (fun v hs => ∃ A', (v = int (((ys.foldl putR rs).length - rs.length : Nat) : Int) ∧ A' = shA x (ys.foldl putR rs)) ∧ hs = [A', S]) := by
 obtain ⟨h0, T, hi⟩ := hT
 refine Cti Tryz.func61 (by kernel_rfl) 34 Tryz.ntmps61 rfl rfl fun w0 R => ?_
 refine Gs.slAddr (hY.h (by repeat constructor)) fun ab ao ha => ?_
 refine Gsr (Las rfl rfl (Lnt (Gs.seq (Gsr (Lmv rfl rfl (Lq rfl (pu_eqN Tryz.underlying69 rfl rfl) (Lnt (Gs.cond_ff rfl rfl (Gs.skip (Gn (Gsr ?_)))))))))))
 refine Las rfl rfl (Lnt (Gs.seq (Gsr (Lmv rfl rfl (Lq rfl (pu_len Tryz.underlying32 rfl) (Lmv rfl rfl (Lnt (Gs.block (Gs.loop1 (fun s : Nat × Nat => s.1 ≤ ys.length ∧ s.2 = ((ys.take s.1).foldl putR rs).length - rs.length) (fun s => [(0, ptr x), (5, int s.2), (10, .slice a ys.length c), (11, int ys.length), (12, int s.1)]) (fun s => [shA x ((ys.take s.1).foldl putR rs), S] ++ R) (fun s => ys.length - s.1) (0, 0) (⟨Nat.zero_le _, by show 0 = rs.length - rs.length; omega⟩) (by repeat constructor) (by repeat constructor) (fun s hs => ?_))))))))))
 obtain ⟨i, n⟩ := s
 obtain ⟨hi0, hn0⟩ := hs
 dsimp only at hi0 hn0 ⊢
 refine Gsr (Lq rfl (pu_lt rfl rfl) (Lnt (Gs.seq (Gs.cond rfl (fun hc1 => ?_) (fun hc1 => ?_)))))
 ·
  have hlt : i < ys.length := by have := of_decide_eq_true hc1; omega
  obtain ⟨y, hy⟩ : ∃ z, ys[i]? = some z := ⟨ys[i], by simp [hlt]⟩
  obtain rfl := ha (by rintro rfl; simp at hlt)
  obtain ⟨qs, hqs⟩ : ∃ z, z = (ys.take i).foldl putR rs := ⟨_, rfl⟩
  have hnx : (ys.take (i + 1)).foldl putR rs = putR qs y := by rw [fold_take putR rs hy, hqs]
  have hln := put_len rs (ys.take i)
  have hln2 := put_len rs (ys.take (i + 1))
  rw [hnx] at hln2
  rw [← hqs] at hln hn0 ⊢
  rw [List.length_take] at hln hln2
  refine Gs.takes (As := [shA x qs]) (by repeat constructor) (Gs.sh fun ix L W m M hI hM => ?_)
  have hsh := hI.short
  have hpn := hI.putN y
  refine Gs.skip (Gn (Gs.seq (Gs.block (Gsr (Lq rfl (pu_ia se_32 rfl rfl (by omega) (by omega)) (Lr rfl (rd_lda ag_50 rfl (Rdc.el0 (hY.h (by repeat constructor)) hy rfl rfl) rfl) ?_))))))
  refine La rfl (ac_alloc zv_50 rfl) ?_
  rintro _ _ ⟨rb, rfl, rfl⟩
  refine Lac0 rfl trivial (ac_st sz_50 rfl rfl (by repeat constructor) rfl rfl rfl rfl) ?_
  rintro _ _ rfl
  refine Lnt (Gs.seq (Gs.regD mixed (by kernel_rfl) (Rmv 0 rfl (by kernel_rfl) rfl (Rq 1 rfl (by kernel_rfl) (by first | exact pu_nil rfl | exact pu_nilF rfl) ?_))))
  refine Rq 2 rfl (by kernel_rfl) (pu_fa fa_154_0 rfl) (Rr 3 rfl (by kernel_rfl) (rd_ld na_151 rfl (Rdc.cl1 (by repeat constructor) rfl)) ?_)
  refine Rr 4 rfl (by kernel_rfl) (rd_lda ag_50 rfl (Rdc.cl 5 (by repeat constructor) rfl) rfl) ?_
  refine Rg.one (by kernel_rfl) (Stp.ac 5 rfl rfl (by kernel_rfl) trivial (asC (Ct.inn2 (φ := fun v A' => ∃ L' W', v = int (putN (plW W) y) ∧ PutI y (toksV y.t) (plL L, plW W) (plL L', plW W') ∧ A' = ixA ix L' W') ((put_spec T ix L W y (fun p hp => by have := hsh p hp; omega)).mono (by rintro _ _ ⟨L', W', h1, h2, rfl⟩; exact ⟨_, ⟨L', W', h1, h2, rfl⟩, rfl⟩)) hi))  ?_)
  rintro _ _ ⟨_, ⟨_, ⟨L', W', rfl, hP, rfl⟩, rfl⟩, rfl⟩
  have hI' := hI.putI hP
  refine Rq 6 rfl (by kernel_rfl) (pu_eq rfl rfl) (Rg.end (by kernel_rfl) (Gn (Gs.cond rfl (fun hc2 => ?_) (fun hc2 => ?_))))
  ·
   have hz : putN (plW W) y = 0 := of_decide_eq_true hc2
   have hyes : recB y = true ∧ y.key ∉ qs.map Rec.key := by
     rw [hpn] at hz
     split at hz
     · rename_i h1
       split at hz
       · omega
       · rename_i h2; exact ⟨h1, h2⟩
     · omega
   have hput : putR qs y = qs ++ [y] := by unfold putR; rw [if_pos (by rw [hyes.1, decide_eq_true hyes.2]; rfl)]
   have hM' : RecM (putR qs y) (mput M y.key y) := by rw [hput]; exact hM.put hyes.2
   have hcnt : n + 1 = (putR qs y).length - rs.length := by rw [hput, List.length_append, List.length_singleton]; omega
   refine Gs.seq (Gs.regD mixed (by kernel_rfl) (Rmv 0 rfl (by kernel_rfl) rfl (Rq 1 rfl (by kernel_rfl) (by first | exact pu_nil rfl | exact pu_nilF rfl) ?_)))
   refine Rq 2 rfl (by kernel_rfl) (pu_fa fa_154_1 rfl) (Rr 3 rfl (by kernel_rfl) (rd_ld na_110 rfl (Rdc.cl1 (by repeat constructor) rfl)) ?_)
   refine Rq 4 rfl (by kernel_rfl) (pu_fa fa_50_0 rfl) (Rr 5 rfl (by kernel_rfl) (rd_lda ag_35 rfl (Rdc.cl 2 (by repeat constructor) rfl) rfl) ?_)
   refine Rr 6 rfl (by kernel_rfl) (rd_lda ag_50 rfl (Rdc.cl 5 (by repeat constructor) rfl) rfl) ?_
   refine Rg.one (by kernel_rfl) (Stp.ac0 7 rfl rfl (by kernel_rfl) trivial (ac_put (encv := recV) (k := y.key) (v := y) Tryz.underlying110 kt_35 rfl rfl rfl (by repeat constructor))  ?_)
   rintro _ _ rfl
   refine Rg.end (by kernel_rfl) (Gn (Gs.reg (Lmv rfl rfl (Lq rfl (by first | exact pu_addI rfl rfl rfl (by omega) (by omega) | exact pu_add rfl rfl) ?_))))
   refine Las rfl rfl (Lnil (Gs.takes (As := [cl x 154 (shC ix m), ixA ix L' W', mp keyV recV m (mput M y.key y)]) (by repeat constructor) (Gs.shc hI' hM' ?_)))
   rw [← hnx]
   refine Gs.blk_n (Gn (Gs.reg (Lq rfl (by first | exact pu_addI rfl rfl rfl (by omega) (by omega) | exact pu_add rfl rfl) ?_)))
   refine Lmv rfl rfl (Lnt ?_)
   first | exact Ag (i + 1, n + 1) ⟨hlt, by rw [hnx]; exact hcnt⟩ (by show ys.length - (i + 1) < ys.length - i; omega) | exact Ag (i + 1, n) ⟨hlt, by rw [hnx]; exact hcnt⟩ (by show ys.length - (i + 1) < ys.length - i; omega)
  have hz : putN (plW W) y ≠ 0 := of_decide_eq_false hc2
  have hput : putR qs y = qs := by
    rw [hpn] at hz
    unfold putR
    refine if_neg fun h => ?_
    rw [Bool.and_eq_true, decide_eq_true_iff] at h
    rw [if_pos h.1, if_neg h.2] at hz
    exact hz rfl
  have hM' : RecM (putR qs y) M := by rw [hput]; exact hM
  have hcnt : n = (putR qs y).length - rs.length := by rw [hput]; exact hn0
  refine Gs.takes (As := [cl x 154 (shC ix m), ixA ix L' W', mp keyV recV m M]) (by repeat constructor) (Gs.shc hI' hM' ?_)
  rw [← hnx]
  refine Gs.skip (Gs.blk_n (Gn (Gs.reg (Lq rfl (by first | exact pu_addI rfl rfl rfl (by omega) (by omega) | exact pu_add rfl rfl) ?_))))
  refine Lmv rfl rfl (Lnt ?_)
  first | exact Ag (i + 1, n + 1) ⟨hlt, by rw [hnx]; exact hcnt⟩ (by show ys.length - (i + 1) < ys.length - i; omega) | exact Ag (i + 1, n) ⟨hlt, by rw [hnx]; exact hcnt⟩ (by show ys.length - (i + 1) < ys.length - i; omega)
 have hge : i = ys.length := by have := of_decide_eq_false hc1; omega
 rw [hge, List.take_length] at hn0 ⊢
 subst hn0
 refine Gs.exit (Gx (Gx (Gs.blk_hit (Gn (Gsr (Lmv rfl rfl (Las rfl rfl (Lnt (Gs.ret ?_)))))))))
 exact Gs.fin1 Tryz.results61 rfl _ (⟨_, ⟨rfl, rfl⟩, rfl⟩) (by repeat constructor)
def ofR (rs : List Rec) (ks : List Key) : List Rec := ks.map fun k => (lookR rs k).getD Rec.zero
end Go.Proofs.YtflfhpokmidnmaaGreatDoor
namespace Go.Proofs.YtflfhpokmidnmaaGreatDoor
open Go Go.Sl Go.Gv Go.Kv Go.Po Go.Ix Go.Qu Go.Shelf
def at0 (v : List Int) (o : Nat) : Int := v.getD o 0
def topAt (U W : List Int) (o : Nat) : Int := max (at0 U o) (at0 W o)
def spanAt (V U W : List Int) (o : Nat) : List Key := (List.range (at0 V o - topAt U W o).toNat).map fun i : Nat => ⟨(o : Int), topAt U W o + 1 + (i : Int)⟩
def lackN (V U W : List Int) (m : Nat) : List Key := (List.range m).flatMap (spanAt V U W)
def lackK (V U W : List Int) : List Key := lackN V U W V.length
theorem spanAt_mem {V U W : List Int} {o : Nat} {k : Key} : k ∈ spanAt V U W o ↔ k.o = (o : Int) ∧ topAt U W o < k.q ∧ k.q ≤ at0 V o := by
 unfold spanAt
 rw [List.mem_map]
 constructor
 · rintro ⟨i, hi, rfl⟩
   rw [List.mem_range] at hi
   exact ⟨rfl, by show topAt U W o < topAt U W o + 1 + (i : Int); omega, by show topAt U W o + 1 + (i : Int) ≤ at0 V o; omega⟩
 · rintro ⟨h1, h2, h3⟩
   refine ⟨(k.q - topAt U W o - 1).toNat, List.mem_range.2 (by omega), ?_⟩
   cases k with
   | mk a b =>
     simp only at h1 h2 h3 ⊢
     rw [h1]
     congr 1
     omega
theorem spanAt_asc (V U W : List Int) (o : Nat) : AscK (spanAt V U W o) := by
 unfold spanAt AscK
 refine List.pairwise_map.2 (List.pairwise_lt_range.imp fun {a b} h => ?_)
 rw [before_iff]
 exact .inr ⟨rfl, by show topAt U W o + 1 + (a : Int) < topAt U W o + 1 + (b : Int); omega⟩
theorem lackN_succ (V U W : List Int) (m : Nat) : lackN V U W (m + 1) = lackN V U W m ++ spanAt V U W m := by
 unfold lackN; rw [List.range_succ, List.flatMap_append]; simp
theorem lackN_mem {V U W : List Int} : ∀ {m : Nat} {k : Key}, k ∈ lackN V U W m ↔ ∃ o : Nat, o < m ∧ k.o = (o : Int) ∧ topAt U W o < k.q ∧ k.q ≤ at0 V o
 | 0, k => ⟨fun h => (by simp [lackN] at h), fun ⟨o, h, _⟩ => by omega⟩
 | m + 1, k => by
   rw [lackN_succ, List.mem_append, lackN_mem, spanAt_mem]
   constructor
   · rintro (⟨o, h1, h2⟩ | h)
     · exact ⟨o, by omega, h2⟩
     · exact ⟨m, by omega, h⟩
   · rintro ⟨o, h1, h2⟩
     by_cases e : o = m
     · subst e; exact .inr h2
     · exact .inl ⟨o, by omega, h2⟩
theorem lackN_asc (V U W : List Int) : ∀ m, AscK (lackN V U W m)
 | 0 => by simp [lackN]
 | m + 1 => by
   rw [lackN_succ]
   refine List.pairwise_append.2 ⟨lackN_asc V U W m, spanAt_asc V U W m, fun a ha b hb => ?_⟩
   obtain ⟨o, h1, h2, -⟩ := lackN_mem.1 ha
   obtain ⟨h3, -⟩ := spanAt_mem.1 hb
   rw [before_iff]
   exact .inl (by omega)
theorem lackK_asc (V U W : List Int) : AscK (lackK V U W) := lackN_asc V U W _
structure StOk (n : Nat) (V W : List Int) (rs : List Rec) : Prop where
 v : V.length = n
 w : W.length = n
 le : ∀ o, o < n → 0 ≤ at0 W o ∧ at0 W o ≤ at0 V o ∧ at0 V o ≤ 1023
 nd : (rs.map Rec.key).Nodup
 may : ∀ r ∈ rs, recB r = true
 keys : ∀ k : Key, k ∈ rs.map Rec.key ↔ ∃ o : Nat, o < n ∧ k.o = (o : Int) ∧ at0 W o < k.q ∧ k.q ≤ at0 V o
theorem topAt_self (W : List Int) (o : Nat) : topAt W W o = at0 W o := by unfold topAt; omega
theorem at0_set {v : List Int} {i o : Nat} {x : Int} (hi : i < v.length) : at0 (v.set i x) o = if o = i then x else at0 v o := by
 unfold at0
 rw [List.getD_eq_getElem?_getD, List.getD_eq_getElem?_getD, List.getElem?_set]
 by_cases e : i = o
 · subst e; rw [if_pos rfl, if_pos hi, if_pos rfl]; rfl
 · rw [if_neg e, if_neg (fun h => e h.symm)]
theorem StOk.acc {n : Nat} {V W : List Int} {rs : List Rec} (h : StOk n V W rs) {r : Rec} (hb : recB r = true) {o : Nat} (ho : o < n) (hr : r.o = (o : Int)) (hq : r.q = at0 V o + 1) (hm : r.q ≤ 1023) :
   StOk n (V.set o r.q) W (rs ++ [r]) ∧ r.key ∉ rs.map Rec.key := by
 have hi : o < V.length := by rw [h.v]; exact ho
 have hni : r.key ∉ rs.map Rec.key := fun hc => by
   obtain ⟨o', h1, h2, h3, h4⟩ := (h.keys r.key).1 hc
   have e1 : r.o = (o' : Int) := h2
   have e2 : o' = o := by omega
   subst e2
   have e3 : r.q ≤ at0 V o' := h4
   omega
 refine ⟨⟨by rw [List.length_set]; exact h.v, h.w, fun p hp => ?_, ?_, fun x hx => ?_, fun k => ?_⟩, hni⟩
 · have h1 := h.le p hp
   rw [at0_set hi]
   split
   · rename_i e; subst e; omega
   · exact h1
 · rw [List.map_append, List.nodup_append]
   exact ⟨h.nd, by simp, fun a ha b hb e => hni (by simp at hb; rw [← hb, ← e]; exact ha)⟩
 · rcases List.mem_append.1 hx with hx | hx
   · exact h.may x hx
   · rw [List.mem_singleton.1 hx]; exact hb
 · rw [List.map_append, List.mem_append, h.keys]
   constructor
   · rintro (⟨p, h1, h2, h3, h4⟩ | hk)
     · refine ⟨p, h1, h2, h3, ?_⟩
       rw [at0_set hi]
       split
       · rename_i e; subst e; omega
       · exact h4
     · simp at hk
       subst hk
       refine ⟨o, ho, hr, ?_, ?_⟩
       · have h1 := h.le o ho
         show at0 W o < r.q; omega
       · rw [at0_set hi, if_pos rfl]; exact Int.le_refl _
   · rintro ⟨p, h1, h2, h3, h4⟩
     rw [at0_set hi] at h4
     split at h4
     · rename_i e; subst e
       by_cases e2 : k.q = r.q
       · refine .inr ?_
         simp
         cases k with
         | mk a b =>
           simp only at h2 e2
           show (⟨a, b⟩ : Key) = ⟨r.o, r.q⟩
           rw [h2, e2, hr]
       · exact .inl ⟨p, h1, h2, h3, by omega⟩
     · exact .inl ⟨p, h1, h2, h3, h4⟩
def joinV (a b : List Int) : List Int := List.zipWith max a b
theorem at0_join {a b : List Int} (h : a.length = b.length) {o : Nat} (ho : o < a.length) : at0 (joinV a b) o = max (at0 a o) (at0 b o) := by
 unfold at0 joinV
 rw [List.getD_eq_getElem?_getD, List.getD_eq_getElem?_getD, List.getD_eq_getElem?_getD, List.getElem?_zipWith]
 have h2 : o < b.length := by omega
 rw [List.getElem?_eq_getElem ho, List.getElem?_eq_getElem h2]
 rfl
def leftR (W : List Int) (rs : List Rec) : List Rec := rs.filter fun r => decide (at0 W r.o.toNat < r.q)
theorem StOk.raise {n : Nat} {V W : List Int} {rs : List Rec} (h : StOk n V W rs) {w : List Int} (hw : w.length = n) (hm : ∀ o, o < n → 0 ≤ at0 w o ∧ at0 w o ≤ 1023) :
   StOk n (joinV V (joinV W w)) (joinV W w) (leftR (joinV W w) rs) := by
 have e1 : ∀ o, o < n → at0 (joinV W w) o = max (at0 W o) (at0 w o) := fun o ho => at0_join (by rw [h.w, hw]) (by rw [h.w]; exact ho)
 have l1 : (joinV W w).length = n := by unfold joinV; rw [List.length_zipWith, h.w, hw, Nat.min_self]
 have e2 : ∀ o, o < n → at0 (joinV V (joinV W w)) o = max (at0 V o) (max (at0 W o) (at0 w o)) := fun o ho => by rw [at0_join (by rw [h.v, l1]) (by rw [h.v]; exact ho), e1 o ho]
 refine ⟨by unfold joinV; rw [List.length_zipWith, h.v]; have := l1; unfold joinV at this; rw [this, Nat.min_self], l1, fun o ho => ?_, ?_, fun r hr => h.may r (List.mem_filter.1 hr).1, fun k => ?_⟩
 · have h1 := h.le o ho
   have h2 := hm o ho
   rw [e1 o ho, e2 o ho]; omega
 · exact List.Nodup.sublist (List.Sublist.map _ List.filter_sublist) h.nd
 · constructor
   · intro hk
     obtain ⟨r, hr, rfl⟩ := List.mem_map.1 hk
     obtain ⟨hr1, hr2⟩ := List.mem_filter.1 hr
     obtain ⟨o, h1, h2, h3, h4⟩ := (h.keys r.key).1 (List.mem_map.2 ⟨r, hr1, rfl⟩)
     have h5 := of_decide_eq_true hr2
     have e : r.o = (o : Int) := h2
     rw [e, Int.toNat_natCast] at h5
     refine ⟨o, h1, h2, h5, ?_⟩
     rw [e2 o h1]
     show r.key.q ≤ _; omega
   · rintro ⟨o, h1, h2, h3, h4⟩
     rw [e1 o h1] at h3
     rw [e2 o h1] at h4
     obtain ⟨r, hr, hk⟩ := List.mem_map.1 ((h.keys k).2 ⟨o, h1, h2, by omega, by omega⟩)
     subst hk
     refine List.mem_map.2 ⟨r, List.mem_filter.2 ⟨hr, decide_eq_true ?_⟩, rfl⟩
     have e : r.o = (o : Int) := h2
     rw [e, Int.toNat_natCast, e1 o h1]
     exact h3
theorem StOk.zero (n : Nat) : StOk n (List.replicate n 0) (List.replicate n 0) [] := by
 have e : ∀ o, o < n → at0 (List.replicate n (0 : Int)) o = 0 := fun o ho => by
   unfold at0; rw [List.getD_eq_getElem?_getD, List.getElem?_replicate, if_pos ho]; rfl
 refine ⟨List.length_replicate, List.length_replicate, fun o ho => ?_, List.nodup_nil, fun _ h => (by cases h), fun k => ⟨fun h => (by cases h), fun ⟨o, h1, h2, h3, h4⟩ => ?_⟩⟩
 · rw [e o ho]; omega
 · rw [e o h1] at h3 h4; omega
end Go.Proofs.YtflfhpokmidnmaaGreatDoor
namespace Go.Dv
open Go Go.Kv Go.Bst
structure Fl where
 n : ByteArray
 b : List UInt8
 s : Nat
abbrev names (D : List Fl) : List ByteArray := D.map Fl.n
def lookF (D : List Fl) (n : ByteArray) : Option Fl := D.find? fun f => f.n = n
def upd (D : List Fl) (n : ByteArray) (g : Fl → Fl) : List Fl := D.map fun f => if f.n = n then g f else f
def used (D : List Fl) : Nat := (D.map fun f => f.b.length).sum
def del (D : List Fl) (n : ByteArray) : List Fl := D.filter fun f => f.n ≠ n
theorem lookF_split {D : List Fl} {n : ByteArray} {f : Fl} (hn : (names D).Nodup) (h : lookF D n = some f) : ∃ X Y, D = X ++ f :: Y ∧ f.n = n ∧ (∀ g, upd D n g = X ++ g f :: Y) ∧ del D n = X ++ Y := by
 induction D with
 | nil => cases h
 | cons x D ih =>
   simp only [names, List.map_cons, List.nodup_cons] at hn
   by_cases hx : x.n = n
   · have : x = f := by simpa [lookF, hx] using h
     subst this
     have hne : ∀ y ∈ D, y.n ≠ n := fun y hy e => hn.1 (by rw [hx, ← e]; exact List.mem_map_of_mem hy)
     refine ⟨[], D, rfl, hx, fun g => ?_, ?_⟩
     · simp only [upd, List.map_cons, hx, if_true, List.nil_append, List.cons.injEq, true_and]
       conv => rhs; rw [← List.map_id D]
       exact List.map_congr_left fun y hy => by simp [hne y hy]
     · simp only [del, List.filter_cons, hx, List.nil_append]
       simp only [ne_eq, not_true_eq_false, decide_false, Bool.false_eq_true, if_false]
       exact List.filter_eq_self.2 fun y hy => by simpa using hne y hy
   · have h' : lookF D n = some f := by simpa [lookF, hx] using h
     obtain ⟨X, Y, e1, e2, e3, e4⟩ := ih hn.2 h'
     refine ⟨x :: X, Y, by rw [e1]; rfl, e2, fun g => ?_, ?_⟩
     · have := e3 g
       simp only [upd, List.map_cons, hx, if_false, List.cons_append] at this ⊢
       rw [this]
     · simp only [del, List.filter_cons, ne_eq, hx, not_false_eq_true, decide_true, if_true, List.cons_append] at e4 ⊢
       rw [e4]
theorem lookF_none {D : List Fl} {n : ByteArray} : lookF D n = none ↔ n ∉ names D := by
 simp only [lookF, List.find?_eq_none, names, List.mem_map, decide_eq_true_eq]
 constructor
 · rintro h ⟨f, hf, e⟩; exact h f hf e
 · intro h f hf e; exact h ⟨f, hf, e⟩
theorem names_upd {D : List Fl} {n : ByteArray} {g : Fl → Fl} (hg : ∀ f, (g f).n = f.n) : names (upd D n g) = names D := by
 simp only [names, upd, List.map_map]
 exact List.map_congr_left fun f _ => by simp only [Function.comp]; split <;> simp [hg]
theorem used_split (X Y : List Fl) (f : Fl) : used (X ++ f :: Y) = used (X ++ Y) + f.b.length := by
 simp only [used, List.map_append, List.map_cons, List.sum_append, List.sum_cons]; omega
theorem used_app (X Y : List Fl) : used (X ++ Y) = used X + used Y := by simp [used]
theorem used_mem {D : List Fl} {f : Fl} (h : f ∈ D) : f.b.length ≤ used D := by
 obtain ⟨X, Y, rfl⟩ := List.append_of_mem h
 rw [used_split]; omega
structure Ok (most : Int) (D : List Fl) : Prop where
 lo : 0 ≤ most
 hi : most ≤ 1048576
 nd : (names D).Nodup
 room : (used D : Int) ≤ most
 firm : ∀ f ∈ D, f.s ≤ f.b.length
theorem Ok.nil {most : Int} (h : 0 ≤ most) (h2 : most ≤ 1048576) : Ok most [] := ⟨h, h2, List.nodup_nil, by simpa [used] using h, fun f hf => by cases hf⟩
def appE (most : Int) (D : List Fl) (n : ByteArray) (bs : List UInt8) : Int := if namedB n then if most < used D + bs.length then 8 else 0 else 2
def appD (D : List Fl) (n : ByteArray) (bs : List UInt8) : List Fl := if (lookF D n).isSome then upd D n (fun f => { f with b := f.b ++ bs }) else D ++ [⟨n, bs, 0⟩]
def appL (most : Int) (D : List Fl) (n : ByteArray) (bs : List UInt8) : List Fl := if appE most D n bs = 0 then appD D n bs else D
theorem Ok.app {most : Int} {D : List Fl} (h : Ok most D) {n : ByteArray} {bs : List UInt8} (hr : (used D : Int) + bs.length ≤ most) : Ok most (appD D n bs) := by
 unfold appD
 cases hl : lookF D n with
 | none =>
   have hn := lookF_none.1 hl
   simp only [Option.isSome_none, Bool.false_eq_true, if_false]
   refine ⟨h.lo, h.hi, ?_, ?_, ?_⟩
   · simp only [names, List.map_append, List.map_cons, List.map_nil, List.nodup_append]
     exact ⟨h.nd, by simp, fun a ha b hb e => by simp at hb; subst hb; subst e; exact hn ha⟩
   · rw [used_app]; simp only [used, List.map_cons, List.map_nil, List.sum_cons, List.sum_nil]; simp only [used] at hr; omega
   · intro f hf
     rcases List.mem_append.1 hf with hf | hf
     · exact h.firm f hf
     · simp at hf; subst hf; simp
 | some f =>
   simp only [Option.isSome_some, if_true]
   obtain ⟨X, Y, e1, e2, e3, e4⟩ := lookF_split h.nd hl
   refine ⟨h.lo, h.hi, ?_, ?_, ?_⟩
   · rw [names_upd (g := fun f => { f with b := f.b ++ bs }) (fun _ => rfl)]; exact h.nd
   · rw [e3, used_split]; rw [e1, used_split] at hr; simp only [List.length_append]; omega
   · intro x hx
     rw [e3] at hx
     simp only [List.mem_append, List.mem_cons] at hx
     have hf := h.firm f (by rw [e1]; simp)
     rcases hx with hx | rfl | hx
     · exact h.firm x (by rw [e1]; simp [hx])
     · simp only [List.length_append]; omega
     · exact h.firm x (by rw [e1]; simp [hx])
theorem Ok.upd {most : Int} {D : List Fl} (h : Ok most D) {n : ByteArray} {g : Fl → Fl} (h1 : ∀ f, (g f).n = f.n) (h2 : ∀ f, (g f).b.length ≤ f.b.length) (h3 : ∀ f, f.s ≤ f.b.length → (g f).s ≤ (g f).b.length) : Ok most (upd D n g) := by
 refine ⟨h.lo, h.hi, by rw [names_upd h1]; exact h.nd, ?_, ?_⟩
 · have : used (Dv.upd D n g) ≤ used D := by
     unfold used Dv.upd
     generalize D = L
     induction L with
     | nil => simp
     | cons x L ih =>
       simp only [List.map_cons, List.sum_cons]
       have := h2 x
       split <;> omega
   have := h.room; omega
 · intro f hf
   obtain ⟨x, hx, rfl⟩ := List.mem_map.1 hf
   split
   · exact h3 x (h.firm x hx)
   · exact h.firm x hx
theorem Ok.del {most : Int} {D : List Fl} (h : Ok most D) (n : ByteArray) : Ok most (del D n) := by
 refine ⟨h.lo, h.hi, List.Nodup.sublist (List.Sublist.map _ List.filter_sublist) h.nd, ?_, fun f hf => h.firm f (List.mem_filter.1 hf).1⟩
 have : used (Dv.del D n) ≤ used D := by
   unfold used Dv.del
   generalize D = L
   induction L with
   | nil => simp
   | cons x L ih =>
     simp only [List.filter_cons]
     split
     · simp only [List.map_cons, List.sum_cons]; omega
     · simp only [List.map_cons, List.sum_cons]; omega
 have := h.room; omega
def allB (D : List Fl) (ns : List ByteArray) : Bool := ns.all fun n => (lookF D n).isSome
def syncL (D : List Fl) (ns : List ByteArray) : List Fl := D.map fun f : Fl => if ns.any (fun n => decide (n = f.n)) then { f with s := f.b.length } else f
def cutE (D : List Fl) (n : ByteArray) (k : Int) : Int := match lookF D n with
 | none => 13
 | some f => if 0 ≤ k ∧ k ≤ f.b.length then 0 else 2
def cutL (D : List Fl) (n : ByteArray) (k : Int) : List Fl := if cutE D n k = 0 then upd D n (fun f => { f with b := f.b.take k.toNat, s := k.toNat }) else D
def lostF (st : Int) (f : Fl) : Nat := min st.toNat (f.b.length - f.s)
def crashF (st : Int) (f : Fl) : Fl := { f with s := f.s + lostF st f, b := f.b.take (f.s + lostF st f) }
def crashN : Int → List ByteArray → List Fl → List Fl
 | _, [], D => D
 | st, n :: ns, D => match lookF D n with
   | none => crashN st ns D
   | some f => crashN (st - lostF st f) ns (upd D n (crashF st))
def crashL (st : Int) (D : List Fl) : List Fl := crashN st (sortB (names D)) D
def lenOf (D : List Fl) (n : ByteArray) : Nat := match lookF D n with
 | some f => f.b.length
 | none => 0
theorem lookF_mem {D : List Fl} (hn : (names D).Nodup) {f : Fl} (h : f ∈ D) : lookF D f.n = some f := by
 cases hl : lookF D f.n with
 | none => exact absurd (List.mem_map_of_mem h) (lookF_none.1 hl)
 | some g =>
   obtain ⟨X, Y, e1, e2, -, -⟩ := lookF_split hn hl
   have := hn
   rw [e1] at h this
   simp only [names, List.map_append, List.map_cons, List.nodup_append, List.nodup_cons] at this
   rcases List.mem_append.1 h with h | h
   · exact (this.2.2 f.n (List.mem_map_of_mem h) g.n (by simp) e2.symm).elim
   · rcases List.mem_cons.1 h with h | h
     · rw [h]
     · exact absurd (by rw [e2]; exact List.mem_map_of_mem h) this.2.1.1
theorem lenOf_names {D : List Fl} (hn : (names D).Nodup) : (names D).map (lenOf D) = D.map fun f => f.b.length := by
 simp only [names, List.map_map]
 exact List.map_congr_left fun f hf => by simp only [Function.comp, lenOf, lookF_mem hn hf]
theorem lenOf_sum {D : List Fl} (hn : (names D).Nodup) {ns : List ByteArray} (p : List.Perm ns (names D)) : (ns.map (lenOf D)).sum = used D := by
 have := (p.map (lenOf D)).sum_nat
 rw [this, lenOf_names hn]; rfl
theorem sum_take_le : ∀ (l : List Nat) (i : Nat), (l.take i).sum ≤ l.sum
 | [], i => by simp
 | x :: l, 0 => by simp
 | x :: l, i + 1 => by simp only [List.take_succ_cons, List.sum_cons]; have := sum_take_le l i; omega
theorem sum_take_succ {l : List Nat} {i x : Nat} (h : l[i]? = some x) : (l.take (i + 1)).sum = (l.take i).sum + x := by
 rw [List.take_add_one, h]; simp
theorem lookF_some {D : List Fl} {n : ByteArray} (h : n ∈ names D) : ∃ f, lookF D n = some f := by
 cases hl : lookF D n with
 | none => exact absurd h (lookF_none.1 hl)
 | some f => exact ⟨f, rfl⟩
theorem Ok.crash {most : Int} {D : List Fl} (h : Ok most D) (n : ByteArray) (st : Int) : Ok most (Dv.upd D n (crashF st)) :=
 h.upd (fun _ => rfl) (fun f => by simp only [crashF, List.length_take]; omega) (fun f hf => by simp only [crashF, List.length_take, lostF]; omega)
theorem names_crash (D : List Fl) (n : ByteArray) (st : Int) : names (upd D n (crashF st)) = names D := names_upd fun _ => rfl
theorem crashN_cons {st : Int} {n : ByteArray} {ns : List ByteArray} {D : List Fl} {f : Fl} (h : lookF D n = some f) : crashN st (n :: ns) D = crashN (st - lostF st f) ns (upd D n (crashF st)) := by
 simp only [crashN, h]
end Go.Dv
namespace Go.Proofs.YtflfhpokmidnmaaGreatDoor
open Go Go.Sl Go.Gv Go.Dv
set_option maxRecDepth 100000
abbrev strV (s : ByteArray) : Value := .string s
abbrev strC (s : ByteArray) : List Value := [.string s]
abbrev byteC (c : UInt8) : List Value := [.int .u8 c.toNat]
abbrev pv (o : Option Nat) : Value := .pointer (o.map fun b => ⟨b, 0, none⟩)
abbrev encv_86 : Option Nat → Value := pv
theorem zvk_86 : ZV Tryz.prog 86 (pv none) := zv_86
abbrev encC_5 : UInt8 → List Value := byteC
theorem ek_5 : EncOk 1 byteC := ⟨fun _ => rfl, fun x v hv => by
 simp only [byteC, List.mem_cons, List.not_mem_nil, or_false] at hv
 rcases hv with rfl; rfl⟩
end Go.Proofs.YtflfhpokmidnmaaGreatDoor
namespace Go.Proofs.YtflfhpokmidnmaaGreatDoor
open Go Go.Sl Go.Gv
set_option maxRecDepth 100000
abbrev u64C (x : Int) : List Value := [.int .u64 x]
abbrev encC_83 : SlV UInt8 → List Value := slC
theorem ek_165 : EncOk 1 u64C := ⟨fun _ => rfl, fun x v hv => by
 simp only [u64C, List.mem_cons, List.not_mem_nil, or_false] at hv
 rcases hv with rfl; rfl⟩
theorem ek_83 : EncOk 1 (slC : SlV UInt8 → List Value) := ⟨fun _ => rfl, fun x v hv => by
 simp only [slC, List.mem_cons, List.not_mem_nil, or_false] at hv
 rcases hv with rfl; rfl⟩
def hs (h : Int) (c : UInt8) : Int := IntKind.u64.wrap (xorK .u64 h (IntKind.u64.wrap c.toNat) * 1099511628211)
def fnv (h : Int) (bs : List UInt8) : Int := bs.foldl hs h
def hashB (bs : List UInt8) : Int := fnv 14695981039346656037 bs
theorem fnv_snoc (h : Int) (bs : List UInt8) (c : UInt8) : fnv h (bs ++ [c]) = hs (fnv h bs) c := by simp [fnv]
theorem fnv_app (h : Int) (bs cs : List UInt8) : fnv h (bs ++ cs) = fnv (fnv h bs) cs := by simp [fnv]
theorem fnv_take {h : Int} {bs : List UInt8} {i : Nat} {c : UInt8} (hc : bs[i]? = some c) : fnv h (bs.take (i + 1)) = hs (fnv h (bs.take i)) c := by
 rw [List.take_add_one, hc]; exact fnv_snoc ..
def flat (ps : List (SlV UInt8)) : List UInt8 := ps.flatMap SlV.xs
theorem flat_take {ps : List (SlV UInt8)} {i : Nat} {x : SlV UInt8} (h : ps[i]? = some x) : flat (ps.take (i + 1)) = flat (ps.take i) ++ x.xs := by
 unfold flat; rw [List.take_add_one, h]; simp
theorem hof_spec {U S : HProp} {a : Option Addr} {c : Nat} {ps : List (SlV UInt8)} (hU : Srd U 1 slC a ps) (hS : ∀ p ∈ ps, Srd S 1 byteC p.a p.xs ∧ p.xs.length ≤ 1048576) (hl : ps.length ≤ 1048576) :
   Ct Tryz.prog 102 [.slice a ps.length c] [U, S] (fun v hs => v = .int .u64 (hashB (flat ps)) ∧ hs = [U, S]) := by
 refine Cti Tryz.func102 (by kernel_rfl) 28 Tryz.ntmps102 rfl rfl fun w0 R => ?_
 refine Gs.slAddr (hU.h (by repeat constructor)) fun ab ao ha => ?_
 refine Gsr (Las rfl rfl (Lnt (Gsr (Las rfl rfl (Lnt (Gs.seq (Gsr (Lmv rfl rfl (Lq rfl (pu_len Tryz.underlying221 rfl) (Lmv rfl rfl (Lnt ?_)))))))))))
 refine Gs.block (Gs.loop1 (fun i : Nat => i ≤ ps.length) (fun i => [(3, .int .u64 (hashB (flat (ps.take i)))), (8, .slice a ps.length c), (9, int ps.length), (10, int i)]) (fun i => [U, S] ++ R) (fun i => ps.length - i) 0 (Nat.zero_le _) (by repeat constructor) (by repeat constructor) (fun i hi => ?_))
 refine Gsr (Lq rfl (pu_lt rfl rfl) (Lnt (Gs.seq (Gs.cond rfl (fun hc0 => ?_) (fun hc0 => ?_)))))
 ·
  have hlt : i < ps.length := by have := of_decide_eq_true hc0; omega
  obtain ⟨x, hx⟩ : ∃ x, ps[i]? = some x := ⟨ps[i], by simp [hlt]⟩
  obtain rfl := ha (by rintro rfl; simp at hlt)
  obtain ⟨g1, g2⟩ := hS x (List.mem_of_getElem? hx)
  refine Gs.slAddr (g1.h (by repeat constructor)) fun xb xo hxa => ?_
  refine Gs.skip (Gn (Gs.seq (Gs.block (Gsr (Lq rfl (pu_ia se_221 rfl rfl (by omega) (by omega)) (Lr rfl (rd_ld na_83 rfl (Rdc.el0 (hU.h (by repeat constructor)) hx rfl rfl)) ?_))))))
  refine Las rfl rfl (Lnt (Gsr (Lmv rfl rfl (Lq rfl (pu_len Tryz.underlying83 rfl) (Lmv rfl rfl (Lnt (Gs.block (Gs.loop1 (fun j : Nat => j ≤ x.xs.length) (fun j => [(3, .int .u64 (fnv (hashB (flat (ps.take i))) (x.xs.take j))), (8, .slice (some ⟨ab, ao, none⟩) ps.length c), (9, int ps.length), (10, int i), (14, .slice x.a x.xs.length x.c), (15, int x.xs.length), (16, int j)]) (fun j => [U, S] ++ R) (fun j => x.xs.length - j) 0 (Nat.zero_le _) (by repeat constructor) (by repeat constructor) (fun j hj => ?_)))))))))
  refine Gsr (Lq rfl (pu_lt rfl rfl) (Lnt (Gs.seq (Gs.cond rfl (fun hc1 => ?_) (fun hc1 => ?_)))))
  ·
   have hlt1 : j < x.xs.length := by have := of_decide_eq_true hc1; omega
   obtain ⟨y, hy⟩ : ∃ y, x.xs[j]? = some y := ⟨x.xs[j], by simp [hlt1]⟩
   obtain ⟨xa, xl, xc⟩ := x
   obtain rfl := hxa (by rintro rfl; simp at hlt1)
   dsimp only at hx hlt1 hy hj g1 g2 hc1 ⊢
   refine Gs.skip (Gn (Gs.seq (Gs.block (Gsr (Lq rfl (pu_ia se_83 rfl rfl (by omega) (by omega)) (Lr rfl (rd_ld na_5 rfl (Rdc.el0 (g1.h (by repeat constructor)) hy rfl rfl)) ?_))))))
   refine Las rfl rfl (Lnt (Gs.reg (Lmv rfl rfl (Lmv rfl rfl (Lq rfl (pu_conv Tryz.underlying5 Tryz.underlying165 rfl) (Lq rfl (pu_xor rfl rfl) (Lq rfl (by first | exact pu_mulI rfl rfl rfl (by omega) (by omega) | exact pu_mul rfl rfl) ?_)))))))
   refine Las rfl rfl (Lnil ?_)
   rw [show IntKind.u64.wrap (xorK .u64 (fnv (hashB (flat (ps.take i))) (xl.take j)) (IntKind.u64.wrap y.toNat) * 1099511628211) = fnv (hashB (flat (ps.take i))) (xl.take (j + 1)) from (fnv_take hy).symm]
   refine Gs.blk_n (Gn (Gs.reg (Lq rfl (by first | exact pu_addI rfl rfl rfl (by omega) (by omega) | exact pu_add rfl rfl) ?_)))
   refine Lmv rfl rfl (Lnt ?_)
   exact Ag (j + 1) (by show j + 1 ≤ xl.length; omega) (by show xl.length - (j + 1) < xl.length - j; omega)
  have hge1 : j = x.xs.length := by have := of_decide_eq_false hc1; omega
  rw [hge1, List.take_length, show fnv (hashB (flat (ps.take i))) x.xs = hashB (flat (ps.take (i + 1))) by rw [flat_take hx]; exact (fnv_app ..).symm]
  refine Gs.exit (Gx (Gx (Gs.blk_hit (Gs.blk_n (Gn (Gs.reg (Lq rfl (by first | exact pu_addI rfl rfl rfl (by omega) (by omega) | exact pu_add rfl rfl) ?_)))))))
  refine Lmv rfl rfl (Lnt ?_)
  exact Ag (i + 1) (by omega) (by omega)
 have hge : i = ps.length := by have := of_decide_eq_false hc0; omega
 rw [hge, List.take_length]
 refine Gs.exit (Gx (Gx (Gs.blk_hit (Gn (Gsr (Lmv rfl rfl (Las rfl rfl (Lnt (Gs.ret ?_)))))))))
 exact Gs.fin1 Tryz.results102 rfl _ (⟨rfl, rfl⟩) (by repeat constructor)
def byteU (x : Int) (s : Nat) : UInt8 := cutB (shrK .u64 x s)
def bytes8 (x : Int) (j : Nat) : List UInt8 := (List.range j).map fun k => byteU x (56 - 8 * k)
theorem bytes8_succ (x : Int) (j : Nat) : bytes8 x (j + 1) = bytes8 x j ++ [byteU x (56 - 8 * j)] := by simp [bytes8, List.range_succ]
theorem bytes8_length (x : Int) (j : Nat) : (bytes8 x j).length = j := by simp [bytes8]
end Go.Proofs.YtflfhpokmidnmaaGreatDoor
