/- Operations that look and compute only: one by one. -/
import Derived.Test.YtbflihggpacblaaGreatDoorEvArith
set_option linter.unusedVariables false
set_option linter.unusedSimpArgs false
namespace Go.Ev
set_option linter.unusedSectionVars false
variable [Sig]

section
variable {P : Program} {W0 : World} {E : Env} {h : H} {w : World} {n vm : Nat} {a : A} {x : Act}

/-- an operation that yields a value and leaves the world -/
def Quiet (P : Program) (E : Env) (w : World) (s : Sem Next) (v : AV) : Prop := ∃ u, cv E v = some u ∧ s.run P w = .ok (.value u) w

theorem ofO_val {o : Option AV} {v : AV} {h' : H} (hr : ofO o h = .val v h') : h' = h ∧ o = some v := by
  unfold ofO at hr
  split at hr
  · cases hr; exact ⟨rfl, rfl⟩
  · cases hr
theorem Quiet.of {s : Sem Value} {v : AV} (hs : ∃ u, cv E v = some u ∧ s.run P w = .ok u w) : Quiet P E w (do pure (.value (← s))) v := by
  obtain ⟨u, hu, hr⟩ := hs
  exact ⟨u, hu, by simp [hr]⟩

theorem mv_sound (S : HSim P W0 E h w) (hA : ASim E n vm a x) {o : Operand} {xo : XO} (hc : cO vm o = some xo) {v : AV} {h' : H} (hr : rMv xo a h = .val v h') :
    h' = h ∧ Quiet P E w (pure (.value (x.eval o))) v := by
  obtain ⟨rfl, hg⟩ := ofO_val hr
  exact ⟨rfl, _, opr_sound S hA hc hg, rfl⟩

theorem pick_sound (S : HSim P W0 E h w) (hA : ASim E n vm a x) {c p q : Operand} {xc xp xq : XO} (hc : cO vm c = some xc) (hp : cO vm p = some xp) (hq : cO vm q = some xq) {v : AV} {h' : H}
    (hr : rPick xc xp xq a h = .val v h') : h' = h ∧ Quiet P E w (do pure (.value (if ← asBool (x.eval c) then x.eval p else x.eval q))) v := by
  unfold rPick at hr
  split at hr
  · rename_i hg
    obtain ⟨rfl, hg'⟩ := ofO_val hr
    have hb := cv_bool (opr_sound S hA hc hg)
    exact ⟨rfl, _, opr_sound S hA hp hg', by simp [hb, asBool]⟩
  · rename_i hg
    obtain ⟨rfl, hg'⟩ := ofO_val hr
    have hb := cv_bool (opr_sound S hA hc hg)
    exact ⟨rfl, _, opr_sound S hA hq hg', by simp [hb, asBool]⟩
  · cases hr

theorem ld_sound (S : HSim P W0 E h w) (hA : ASim E n vm a x) {t : TypeId} {p : Operand} {xp : XO} {g : Bool} {m : Nat} (hp : cO vm p = some xp) (ha : aggT P t = some g) (hs : szT P t = some m) {v : AV} {h' : H}
    (hr : rLd g m xp a h = .val v h') : h' = h ∧ Quiet P E w (do pure (.value (← Instr.loadAt t (x.eval p)))) v := by
  unfold rLd at hr
  split at hr
  · rename_i b off hg
    obtain ⟨rfl, hl⟩ := ofO_val hr
    obtain ⟨e, he, heq⟩ := cv_ptr (opr_sound S hA hp hg)
    obtain ⟨u, hu, hrun⟩ := load_sound S he ha hs hl
    exact ⟨rfl, .of ⟨u, hu, by simp [Instr.loadAt, heq, Instr.sureAddr, hrun]⟩⟩
  · cases hr

theorem nilc_sound (S : HSim P W0 E h w) (hA : ASim E n vm a x) {o : Oper} {p : Operand} {xp : XO} (ho : o.op = .nilCheck p) (hp : cO vm p = some xp) {v : AV} {h' : H}
    (hr : rNilc xp a h = .val v h') : h' = h ∧ Quiet P E w (execOp x.eval o) v := by
  unfold rNilc at hr
  split at hr
  · rename_i b off hg
    cases hr
    obtain ⟨e, he, heq⟩ := cv_ptr (opr_sound S hA hp hg)
    exact ⟨rfl, _, opr_sound S hA hp hg, by simp [execOp, ho, heq]⟩
  · rename_i f fs cs hg
    cases hr
    obtain ⟨l, m, hl, hm, heq⟩ := cv_func (opr_sound S hA hp hg)
    exact ⟨rfl, _, opr_sound S hA hp hg, by simp [execOp, ho, heq]⟩
  · rename_i t y hg
    cases hr
    obtain ⟨l, hl, heq⟩ := cv_iface (opr_sound S hA hp hg)
    exact ⟨rfl, _, opr_sound S hA hp hg, by simp [execOp, ho, heq]⟩
  · cases hr

theorem bin_sound (S : HSim P W0 E h w) (hA : ASim E n vm a x) {op : BinOp} {t : TypeId} {p q : Operand} {xp xq : XO} (hp : cO vm p = some xp) (hq : cO vm q = some xq) {v : AV} {h' : H}
    (hr : rBin op (ekT P t) (isConst p || isConst q) xp xq a h = .val v h') :
    h' = h ∧ Quiet P E w (do pure (.value (← (do eqGuard op t p q (x.eval p) (x.eval q); binOp op t (x.eval p) (x.eval q))))) v := by
  unfold rBin at hr
  split at hr
  · rename_i u hu
    split at hr
    · rename_i y hy
      obtain ⟨rfl, hv⟩ := ofO_val hr
      exact ⟨rfl, .of (evBin_sound (opr_sound S hA hp hu) (opr_sound S hA hq hy) hv)⟩
    · cases hr
  · cases hr

theorem un_sound (S : HSim P W0 E h w) (hA : ASim E n vm a x) {op : UnOp} {p : Operand} {xp : XO} (hp : cO vm p = some xp) {v : AV} {h' : H}
    (hr : rUn op xp a h = .val v h') : h' = h ∧ Quiet P E w (do pure (.value (← Op.unary op (x.eval p)))) v := by
  unfold rUn at hr
  split at hr
  · rename_i u hu
    obtain ⟨rfl, hv⟩ := ofO_val hr
    exact ⟨rfl, .of (evUn_sound (opr_sound S hA hp hu) hv)⟩
  · cases hr

theorem conv_sound (S : HSim P W0 E h w) (hA : ASim E n vm a x) {s d : TypeId} {ds : TypeDesc} {k : IntKind} {p : Operand} {xp : XO} (hs : P.underlying s = some ds) (hd : P.underlying d = some (.int k)) (hp : cO vm p = some xp) {v : AV} {h' : H}
    (hr : rConv k xp a h = .val v h') : h' = h ∧ Quiet P E w (do pure (.value (← convert s d (x.eval p)))) v := by
  unfold rConv at hr
  split at hr
  · rename_i j m hg
    split at hr
    · rename_i hsb
      split at hr
      · rename_i z hz
        cases hr
        have heq := cv_sym (opr_sound S hA hp hg)
        have hw : k.wrap (dec m) = dec z := Sig.conv j k m z hsb hz
        refine ⟨rfl, .of ⟨.int k (dec z), by simp only [cv], ?_⟩⟩
        simp [convert, run_underlying hs, run_underlying hd, heq, Conv.intToInt, hw]
      · cases hr
    · rename_i hns
      obtain ⟨rfl, hv⟩ := ofO_val hr
      obtain ⟨rfl, hw, -⟩ := mkInt_some hv
      have heq := cv_int (opr_sound S hA hp hg) hns
      refine ⟨rfl, .of ⟨.int k m, cv_mk hns, ?_⟩⟩
      simp [convert, run_underlying hs, run_underlying hd, heq, Conv.intToInt, hw]
  · cases hr

theorem convS_sound (S : HSim P W0 E h w) (hA : ASim E n vm a x) {s d : TypeId} {ds : TypeDesc} {p : Operand} {xp : XO} (hs : P.underlying s = some ds) (hd : P.underlying d = some .string) (hp : cO vm p = some xp) {v : AV} {h' : H}
    (hr : rConvS xp a h = .val v h') : h' = h ∧ Quiet P E w (do pure (.value (← convert s d (x.eval p)))) v := by
  unfold rConvS at hr
  split at hr
  · rename_i l c hg
    cases hr
    have heq := cv_str (opr_sound S hA hp hg)
    refine ⟨rfl, .of ⟨_, opr_sound S hA hp hg, ?_⟩⟩
    simp [convert, run_underlying hs, run_underlying hd, heq]
  · cases hr

theorem ofNat_mod256 (m : Nat) : UInt8.ofNat (m % 256) = UInt8.ofNat m := by
  apply UInt8.toNat.inj
  simp
theorem codeC_bytes {E : Env} : ∀ (cs : List AV) (vs : List Value) (c : Nat) (s : ByteArray), cvC E cs = some vs → codeC cs = some c →
    (forIn vs s fun c __s => (match c with
      | Value.int IntKind.u8 n => (pure (ForInStep.yield (__s.push (UInt8.ofNat n.toNat))) : Sem (ForInStep ByteArray))
      | _ => (fun _ => ForInStep.yield __s) <$> (stuck "bytesToString: byte expected" : Sem PUnit))).run P w = .ok ⟨(s.data.toList ++ bytesOf cs.length c).toArray⟩ w
  | [], vs, c, s, hv, hc => by
    simp only [cvC, Option.some.injEq] at hv; subst hv
    simp [bytesOf]
  | .int .u8 (.ofNat m) :: cs, vs, c, s, hv, hc => by
    simp only [codeC] at hc
    split at hc
    · rename_i c' hc'
      cases hc
      simp only [cvC, AV.one, cv] at hv
      split at hv
      · rename_i u l h1 h2 h3
        cases hv
        cases h2
        have ih := codeC_bytes cs l c' (s.push (UInt8.ofNat m)) h3 hc'
        have hd : dec (Int.ofNat m) = (m : Int) := dec_of rfl
        rw [List.forIn_cons]
        simp only [hd, Int.toNat_natCast, Sem.run_bind]
        simp only [Sem.run, pure, Result.andThen]
        refine Eq.trans ih ?_
        congr 1
        have e1 : bytesOf (List.length (AV.int .u8 (.ofNat m) :: cs)) (Nat.add (Nat.mod m 256) (Nat.mul 256 c')) = UInt8.ofNat m :: bytesOf cs.length c' := by
          show UInt8.ofNat ((m % 256 + 256 * c') % 256) :: bytesOf cs.length ((m % 256 + 256 * c') / 256) = _
          rw [show (m % 256 + 256 * c') % 256 = m % 256 by omega, show (m % 256 + 256 * c') / 256 = c' by omega, ofNat_mod256]
        rw [e1]
        simp
      · cases hv
    · cases hc
  | .bool _ :: _, _, _, _, _, hc => by cases hc
  | .str _ _ :: _, _, _, _, _, hc => by cases hc
  | .ptr _ _ :: _, _, _, _, _, hc => by cases hc
  | .nilptr :: _, _, _, _, _, hc => by cases hc
  | .slice .. :: _, _, _, _, _, hc => by cases hc
  | .nilslice :: _, _, _, _, _, hc => by cases hc
  | .map _ :: _, _, _, _, _, hc => by cases hc
  | .nilmap :: _, _, _, _, _, hc => by cases hc
  | .func .. :: _, _, _, _, _, hc => by cases hc
  | .yield _ :: _, _, _, _, _, hc => by cases hc
  | .nilfunc :: _, _, _, _, _, hc => by cases hc
  | .iface .. :: _, _, _, _, _, hc => by cases hc
  | .niliface :: _, _, _, _, _, hc => by cases hc
  | .agg _ :: _, _, _, _, _, hc => by cases hc
  | .tuple _ :: _, _, _, _, _, hc => by cases hc
  | .int .u8 (.negSucc _) :: _, _, _, _, _, hc => by cases hc
  | .int .i8 _ :: _, _, _, _, _, hc => by cases hc
  | .int .i16 _ :: _, _, _, _, _, hc => by cases hc
  | .int .i32 _ :: _, _, _, _, _, hc => by cases hc
  | .int .i64 _ :: _, _, _, _, _, hc => by cases hc
  | .int .u16 _ :: _, _, _, _, _, hc => by cases hc
  | .int .u32 _ :: _, _, _, _, _, hc => by cases hc
  | .int .u64 _ :: _, _, _, _, _, hc => by cases hc
theorem convB_sound (S : HSim P W0 E h w) (hA : ASim E n vm a x) {s d e : TypeId} {p : Operand} {xp : XO} (hs : P.underlying s = some (.slice e)) (he : P.underlying e = some (.int .u8)) (hd : P.underlying d = some .string) (hp : cO vm p = some xp) {v : AV} {h' : H}
    (hr : rConvB xp a h = .val v h') : h' = h ∧ Quiet P E w (do pure (.value (← convert s d (x.eval p)))) v := by
  unfold rConvB at hr
  split at hr
  · rename_i hg
    cases hr
    have heq := opr_sound S hA hp hg
    simp only [cv, Option.some.injEq] at heq
    refine ⟨rfl, .of ⟨.string (strB 0 0), by simp only [cv], ?_⟩⟩
    rw [← heq]
    simp [convert, run_underlying hs, run_underlying hd, run_underlying he, Conv.bytesToString]
    rfl
  · rename_i b off m cap ex hg
    split at hr
    · rename_i cs hl
      split at hr
      · rename_i c hc
        simp only [frc_eq] at hr
        cases hr
        have heq := opr_sound S hA hp hg
        simp only [cv] at heq
        split at heq
        · rename_i loc hloc
          simp only [Option.some.injEq] at heq
          unfold loadAt at hl
          split at hl
          · rename_i ds el tl ro hgb
            simp only at hl
            split at hl
            · rename_i l hdr
              split at hl
              · rename_i r ht
                cases hl
                obtain ⟨C, el', fz, hC, -, -, hcells, -⟩ := S.cells hloc hgb
                obtain ⟨vs, hvs, hlen, hj⟩ := hcells.part hdr ht
                have hrun := run_loadCells_list (P := P) w ⟨loc.rb, loc.ro + off, none⟩ vs (fun j u hu => by
                  rw [Addr.add_lit, cell_of hC]; exact hj j u hu)
                rw [hlen] at hrun
                have hlen2 : cs.length = m := by rw [← cvC_length hvs]; exact hlen
                refine ⟨rfl, .of ⟨.string (strB m c), by simp only [cv], ?_⟩⟩
                have hb := codeC_bytes (P := P) (w := w) cs vs c .empty hvs hc
                rw [hlen2] at hb
                rw [← heq]
                simp only [convert, Sem.run_bind, run_underlying hs, run_underlying hd, run_underlying he, Result.andThen_ok, Conv.bytesToString, hrun]
                simp
                exact (congrArg (fun r => Result.andThen r (fun a w' => Result.ok (Value.string a) w')) hb).trans rfl
              · cases hl
            · cases hl
          · cases hl
        · cases heq
      · cases hr
    · cases hr
  · cases hr

theorem mkI_sound (S : HSim P W0 E h w) (hA : ASim E n vm a x) {t : TypeId} {d : TypeDesc} {p : Operand} {xp : XO} (ht : P.underlying t = some d) (hn : ∀ ms, d ≠ .interface ms) (hp : cO vm p = some xp) {v : AV} {h' : H}
    (hr : rMkI t xp a h = .val v h') : h' = h ∧ Quiet P E w (do pure (.value (← Instr.makeInterface t (x.eval p)))) v := by
  unfold rMkI at hr
  split at hr
  · rename_i u hg
    cases hr
    refine ⟨rfl, .of ⟨.iface t (x.eval p), by simp [cv, opr_sound S hA hp hg], ?_⟩⟩
    cases d <;> first | (simp [Instr.makeInterface, run_underlying ht]; done) | exact absurd rfl (hn _)
  · cases hr

theorem mkF_sound (S : HSim P W0 E h w) (hA : ASim E n vm a x) {f : FuncId} {fs cs : Array Operand} {xfs xcs : List XO} (hf : cOs vm fs.toList = some xfs) (hc : cOs vm cs.toList = some xcs) {v : AV} {h' : H}
    (hr : rMkF f xfs xcs a h = .val v h') : h' = h ∧ Quiet P E w (do pure (.value (← Instr.makeFunc (.func f) (fs.map x.eval) (cs.map x.eval)))) v := by
  unfold rMkF at hr
  split at hr
  · rename_i l m hl hm
    cases hr
    refine ⟨rfl, .of ⟨.func (.func f) (fs.map x.eval) (cs.map x.eval), ?_, by simp [Instr.makeFunc]⟩⟩
    simp only [cv, oprs_sound S hA hf hl, oprs_sound S hA hc hm]
    have e1 : ∀ fs : Array Operand, (fs.toList.map x.eval).toArray = fs.map x.eval := fun fs => by apply Array.ext' ; simp
    rw [e1, e1]
  · cases hr

theorem fa_sound (S : HSim P W0 E h w) (hA : ASim E n vm a x) {s : TypeId} {f o ft : Nat} {p : Operand} {xp : XO} {m : Nat} (hf : fieldT P s f = some (o, ft)) (hs : szT P ft = some (m + 1)) (hp : cO vm p = some xp) {v : AV} {h' : H}
    (hr : rFa o xp a h = .val v h') : h' = h ∧ Quiet P E w (do pure (.value (← Instr.fieldAt s (x.eval p) f))) v := by
  unfold rFa at hr
  split at hr
  · rename_i b off hg
    rw [frc_eq] at hr
    cases hr
    obtain ⟨e, he, heq⟩ := cv_ptr (opr_sound S hA hp hg)
    obtain ⟨fs, fd, hu, hfd, h1, h2⟩ := fieldT_under hf
    refine ⟨rfl, .of ⟨.pointer (some ⟨e.rb, e.ro + (off + o), none⟩), by simp [cv, he], ?_⟩⟩
    subst h1; subst h2
    simp [Instr.fieldAt, run_underlying hu, hfd, heq, Instr.sureAddr, fieldPlace, szT_run hs, Addr.add_lit, Nat.add_assoc]
  · cases hr

theorem fld_sound (S : HSim P W0 E h w) (hA : ASim E n vm a x) {s : TypeId} {f o ft : Nat} {p : Operand} {xp : XO} {m : Nat} {g : Bool} (hf : fieldT P s f = some (o, ft)) (ha : aggT P ft = some g) (hs : szT P ft = some m) (hp : cO vm p = some xp) {v : AV} {h' : H}
    (hr : rFld g o m xp a h = .val v h') : h' = h ∧ Quiet P E w (do pure (.value (← Instr.field s (x.eval p) f))) v := by
  unfold rFld at hr
  split at hr
  · rename_i cs hg
    obtain ⟨l, hl, heq⟩ := cv_agg (opr_sound S hA hp hg)
    obtain ⟨fs, fd, hu, hfd, h1, h2⟩ := fieldT_under hf
    subst h1; subst h2
    have key : h' = h ∧ partA g m fd.offset cs = some v := by
      cases g with
      | true =>
        simp only [partA] at hr ⊢
        split at hr
        · split at hr
          · cases hr; rename_i h1 _ _ h2; simp [h1, h2]
          · cases hr
        · cases hr
      | false => exact ofO_val hr
    obtain ⟨rfl, key⟩ := key
    obtain ⟨u, hu', hrun⟩ := part_sound (w := w) hl ha hs key
    refine ⟨rfl, .of ⟨u, hu', ?_⟩⟩
    simp [Instr.field, run_underlying hu, hfd, heq, asAgg, hrun]
  · cases hr

theorem ia_sound (S : HSim P W0 E h w) (hA : ASim E n vm a x) {t e : TypeId} {p i : Operand} {xp xi : XO} {sz : Nat} (ht : P.underlying t = some (.slice e)) (hs : szT P e = some sz) (hp : cO vm p = some xp) (hi : cO vm i = some xi) {v : AV} {h' : H}
    (hr : rIa sz xp xi a h = .val v h') : h' = h ∧ Quiet P E w (do pure (.value (← Instr.indexAt t (x.eval p) (x.eval i)))) v := by
  unfold rIa at hr
  split at hr
  · rename_i b off len cap ex hg
    split at hr
    · rename_i k m hg'
      split at hr
      · rename_i hlt
        rw [frc_eq] at hr
        cases hr
        obtain ⟨l, hl, heq⟩ := cv_slice (opr_sound S hA hp hg)
        have heq' := cv_int (opr_sound S hA hi hg')
        have hlt' := blt_lt hlt
        refine ⟨rfl, .of ⟨.pointer (some ⟨l.rb, l.ro + (off + m * sz), none⟩), by simp [cv, hl], ?_⟩⟩
        simp [Instr.indexAt, heq, heq', asIntOf, run_underlying ht, szT_run hs, Addr.add_lit, hlt', Nat.add_assoc]
      · cases hr
    · cases hr
  · cases hr

theorem iaArr_sound (S : HSim P W0 E h w) (hA : ASim E n vm a x) {t e : TypeId} {p i : Operand} {xp xi : XO} {len sz : Nat} (ht : P.underlying t = some (.array len e)) (hs : szT P e = some sz) (hp : cO vm p = some xp) (hi : cO vm i = some xi) {v : AV} {h' : H}
    (hr : rIaArr len sz xp xi a h = .val v h') : h' = h ∧ Quiet P E w (do pure (.value (← Instr.indexAt t (x.eval p) (x.eval i)))) v := by
  unfold rIaArr at hr
  split at hr
  · rename_i b off hg
    split at hr
    · rename_i k m hg'
      split at hr
      · rename_i hlt
        rw [frc_eq] at hr
        cases hr
        obtain ⟨l, hl, heq⟩ := cv_ptr (opr_sound S hA hp hg)
        have heq' := cv_int (opr_sound S hA hi hg')
        have hlt' := blt_lt hlt
        refine ⟨rfl, .of ⟨.pointer (some ⟨l.rb, l.ro + (off + m * sz), none⟩), by simp [cv, hl], ?_⟩⟩
        simp [Instr.indexAt, heq, heq', asIntOf, run_underlying ht, szT_run hs, Addr.add_lit, hlt', Nat.add_assoc, Instr.sureAddr]
      · cases hr
    · cases hr
  · cases hr

theorem ixS_sound (S : HSim P W0 E h w) (hA : ASim E n vm a x) {t : TypeId} {p i : Operand} {xp xi : XO} (ht : P.underlying t = some .string) (hp : cO vm p = some xp) (hi : cO vm i = some xi) {v : AV} {h' : H}
    (hr : rIxS xp xi a h = .val v h') : h' = h ∧ Quiet P E w (do pure (.value (← Instr.index t (x.eval p) (x.eval i)))) v := by
  unfold rIxS at hr
  split at hr
  · rename_i len c hg
    split at hr
    · rename_i k m hg'
      split at hr
      · rename_i hlt
        obtain ⟨rfl, hv⟩ := ofO_val hr
        obtain ⟨rfl, -⟩ := mkNat_some hv
        have heq := cv_str (opr_sound S hA hp hg)
        have heq' := cv_int (opr_sound S hA hi hg')
        have hlt' := blt_lt hlt
        refine ⟨rfl, .of ⟨.int .u8 (Int.ofNat ((c / 256 ^ m) % 256)), cv_mk, ?_⟩⟩
        have hget : (strB len c)[m]? = some (UInt8.ofNat (c / 256 ^ m % 256)) := by
          have h1 : m < (strB len c).size := by rw [strB_size]; exact hlt'
          have h2 := bytesOf_get len c m hlt'
          rw [getElem?_pos (strB len c) m h1]
          have h3 : (bytesOf len c)[m]'(by rw [bytesOf_length]; exact hlt') = UInt8.ofNat (c / 256 ^ m % 256) := (List.getElem?_eq_some_iff.1 h2).2
          rw [← h3]
          rfl
        simp [Instr.index, heq, heq', asIntOf, run_underlying ht, hget]
      · cases hr
    · cases hr
  · cases hr

theorem ixA_sound (S : HSim P W0 E h w) (hA : ASim E n vm a x) {t e : TypeId} {len : Nat} {p i : Operand} {xp xi : XO} (ht : P.underlying t = some (.array len e)) (ha : aggT P e = some false) (hs : szT P e = some 1) (hp : cO vm p = some xp) (hi : cO vm i = some xi) {v : AV} {h' : H}
    (hr : rIxA len xp xi a h = .val v h') : h' = h ∧ Quiet P E w (do pure (.value (← Instr.index t (x.eval p) (x.eval i)))) v := by
  unfold rIxA at hr
  split at hr
  · rename_i cs hg
    split at hr
    · rename_i k m hg'
      split at hr
      · rename_i hlt
        obtain ⟨rfl, hv⟩ := ofO_val hr
        obtain ⟨l, hl, heq⟩ := cv_agg (opr_sound S hA hp hg)
        have heq' := cv_int (opr_sound S hA hi hg')
        have hlt' := blt_lt hlt
        obtain ⟨u, hu', hrun⟩ := part_sound (w := w) (off := m) (g := false) hl ha hs (v := v) hv
        refine ⟨rfl, .of ⟨u, hu', ?_⟩⟩
        simp [Instr.index, heq, heq', asIntOf, run_underlying ht, szT_run hs, hlt', hrun]
      · cases hr
    · cases hr
  · cases hr

theorem ext_sound (S : HSim P W0 E h w) (hA : ASim E n vm a x) {p : Operand} {i : Nat} {xp : XO} (hp : cO vm p = some xp) {v : AV} {h' : H}
    (hr : rExt xp i a h = .val v h') : h' = h ∧ Quiet P E w (do pure (.value (← Instr.extract (x.eval p) i))) v := by
  unfold rExt at hr
  split at hr
  · rename_i vs hg
    obtain ⟨rfl, hv⟩ := ofO_val hr
    rw [nthV_eq] at hv
    obtain ⟨l, hl, heq⟩ := cv_tuple (opr_sound S hA hp hg)
    obtain ⟨u, hu, hu'⟩ := cvL_get hl i v hv
    refine ⟨rfl, .of ⟨u, hu, ?_⟩⟩
    simp [Instr.extract, heq, hu']
  · cases hr

theorem max_sound (S : HSim P W0 E h w) (hA : ASim E n vm a x) {p q : Operand} {xp xq : XO} (hp : cO vm p = some xp) (hq : cO vm q = some xq) {ts : Array TypeId} {t : TypeId} {v : AV} {h' : H}
    (hr : rMax xp xq a h = .val v h') : h' = h ∧ Quiet P E w (do pure (.value (← Builtin.max_ ts t #[x.eval p, x.eval q]))) v := by
  unfold rMax at hr
  split at hr
  · rename_i k m j l hg hg'
    split at hr
    · rename_i hns
      simp only [Bool.and_eq_true, Bool.not_eq_true', Bool.or_eq_false_iff] at hns
      cases hr
      have heq := cv_int (opr_sound S hA hp hg) hns.2.1
      have heq' := cv_int (opr_sound S hA hq hg') hns.2.2
      refine ⟨rfl, .of ⟨.int k (if l > m then l else m), ?_, ?_⟩⟩
      · simp only [cv, ilt_iff]
        by_cases hlt : m < l <;> simp [hlt, dec_of hns.2.1, dec_of hns.2.2]
      · simp [Builtin.max_, heq, heq', Builtin.max2]
    · cases hr
  · cases hr
theorem min_sound (S : HSim P W0 E h w) (hA : ASim E n vm a x) {p q : Operand} {xp xq : XO} (hp : cO vm p = some xp) (hq : cO vm q = some xq) {ts : Array TypeId} {t : TypeId} {v : AV} {h' : H}
    (hr : rMin xp xq a h = .val v h') : h' = h ∧ Quiet P E w (do pure (.value (← Builtin.min_ ts t #[x.eval p, x.eval q]))) v := by
  unfold rMin at hr
  split at hr
  · rename_i k m j l hg hg'
    split at hr
    · rename_i hns
      simp only [Bool.and_eq_true, Bool.not_eq_true', Bool.or_eq_false_iff] at hns
      cases hr
      have heq := cv_int (opr_sound S hA hp hg) hns.2.1
      have heq' := cv_int (opr_sound S hA hq hg') hns.2.2
      refine ⟨rfl, .of ⟨.int k (if l < m then l else m), ?_, ?_⟩⟩
      · simp only [cv, ilt_iff]
        by_cases hlt : l < m <;> simp [hlt, dec_of hns.2.1, dec_of hns.2.2]
      · simp [Builtin.min_, heq, heq', Builtin.min2]
    · cases hr
  · cases hr

end
end Go.Ev
