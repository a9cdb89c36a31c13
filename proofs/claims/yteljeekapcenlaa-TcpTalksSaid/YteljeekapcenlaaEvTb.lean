/-
  Ev, part Tb: deep values: operations that touch no memory, that read it, or that make a block. No conditions.
-/
import Derived.Test.YteljeekapcenlaaEvTa
namespace Go.Proofs.Yteljeekapcenlaa.Ev
open Go Go.RowKit
set_option linter.unusedSimpArgs false
set_option linter.unusedVariables false
theorem dlen_of {cs : List Value} {n z : Nat} (hz : 0 < z) (h : cs.length = n * z) : dlen z cs = n := by
  unfold dlen; rw [h, Nat.mul_div_cancel _ hz]
theorem dlen_nil (z : Nat) : dlen z [] = 0 := by unfold dlen; simp
theorem ddr_eq (z n : Nat) (cs : List Value) : ddr z n cs = cs.drop (n * z) := by
  cases n with
  | zero => simp [ddr]
  | succ n => rfl
section
variable {P : Program} {T : Ty} (hT : Fits P T)
include hT
theorem indexD_ok {t : TypeId} {x ix : Value} {k : Value → Res} {r : Value × AH} (h : indexD T t x ix k = some r) :
    ∃ v, k v = some r ∧ ∀ ι x' ix' w, VR ι x x' → VR ι ix ix' → ∃ v', (Instr.indexAt t x' ix').run P w = .ok v' w ∧ VR ι v v' := by
  unfold indexD at h
  rcases deepC_some h with ⟨z, cs, rfl, g⟩ | ⟨off, cs, rfl, g⟩ | ⟨z, b, n, rfl, g⟩ | ⟨_, _, g⟩ | g
  · obtain ⟨kd, i, hq, g2⟩ := asI_ok g
    clear g; subst hq; have g := g2; clear g2
    cases hd : T.und t with
    | none => rw [hd] at g; cases g
    | some d =>
      rw [hd] at g
      have hu := hT.und hd
      cases d <;> (try simp only [] at g) <;> first | (cases g; done) | skip
      obtain ⟨e, hi1, g, hsz⟩ := sizeT_ok hT g
      obtain ⟨hc, g⟩ := cond_some g
      simp only [Bool.and_eq_true, decide_eq_true_eq] at hc
      obtain ⟨hs, hc⟩ := hc
      have hs := Nat.eq_of_beq_eq_true hs
      refine ⟨_, g, fun ι x' ix' w hx hix => ?_⟩
      cases hix
      obtain ⟨hz, hx⟩ := hx.dS_inv
      rcases hx with ⟨⟨oa, rfl⟩, rfl⟩ | ⟨n, cap, r', o, rfl, hl, hcap, hf⟩
      · rw [dlen_nil] at hc; omega
      · rw [dlen_of hz hl] at hc
        refine ⟨.pointer (some ⟨r', o + i.toNat * e.size, none⟩), ?_, .dPt _ _ _ _ hf⟩
        simp [Instr.indexAt, asIntOf, run_underlying hu, hc, hsz, addE]
  · obtain ⟨kd, i, hq, g2⟩ := asI_ok g
    clear g; subst hq; have g := g2; clear g2
    cases hd : T.und t with
    | none => rw [hd] at g; cases g
    | some d =>
      rw [hd] at g
      have hu := hT.und hd
      cases d <;> (try simp only [] at g) <;> first | (cases g; done) | skip
      obtain ⟨e, hi1, g, hsz⟩ := sizeT_ok hT g
      obtain ⟨hc, g⟩ := cond_some g
      simp only [Bool.and_eq_true, decide_eq_true_eq] at hc
      refine ⟨_, g, fun ι x' ix' w hx hix => ?_⟩
      cases hix
      obtain ⟨r', o, rfl, hf⟩ := hx.dP_inv
      refine ⟨.pointer (some ⟨r', o + off + i.toNat * e.size, none⟩), ?_, by rw [Nat.add_assoc]; exact .dPt _ _ _ _ hf⟩
      simp [Instr.indexAt, asIntOf, run_underlying hu, hc, hsz, addE, Instr.sureAddr]
  · obtain ⟨kd, i, hq, g2⟩ := asI_ok g
    clear g; subst hq; have g := g2; clear g2
    cases hd : T.und t with
    | none => rw [hd] at g; cases g
    | some d =>
      rw [hd] at g
      have hu := hT.und hd
      cases d <;> (try simp only [] at g) <;> first | (cases g; done) | skip
      obtain ⟨e, hi1, g, hsz⟩ := sizeT_ok hT g
      obtain ⟨hc, g⟩ := cond_some g
      simp only [Bool.and_eq_true, decide_eq_true_eq] at hc
      obtain ⟨hs, hc⟩ := hc
      refine ⟨_, g, fun ι x' ix' w hx hix => ?_⟩
      cases hix
      obtain ⟨hz, hx⟩ := hx.dB_inv
      rcases hx with ⟨rfl, _⟩ | ⟨k', j, hj, rfl, hk, hex⟩
      · omega
      · refine ⟨.pointer (some ⟨j.blk, j.sh + i.toNat * e.size, none⟩), ?_, .ptr _ _ j hj⟩
        simp [Instr.indexAt, asIntOf, run_underlying hu, hc, hsz, addE]
  · cases g
  · exact opIndexAddr_ok hT g
theorem fieldD_ok {t : TypeId} {x : Value} {n : Nat} {k : Value → Res} {r : Value × AH} (h : fieldD T t x n k = some r) :
    ∃ v, k v = some r ∧ ∀ ι x' w, VR ι x x' → ∃ v', (Instr.fieldAt t x' n).run P w = .ok v' w ∧ VR ι v v' := by
  unfold fieldD at h
  rcases deepC_some h with ⟨_, _, _, g⟩ | ⟨off, cs, rfl, g⟩ | ⟨_, _, _, _, g⟩ | ⟨_, _, g⟩ | g
  · cases g
  · obtain ⟨fd, hfd, g⟩ := Option.bind_eq_some_iff.1 g
    obtain ⟨i, hi1, g, hsz⟩ := sizeT_ok hT g
    cases hs0 : decide (i.size = 0) with
    | true => rw [hs0] at g; cases g
    | false =>
      rw [hs0, cond_false] at g
      have hs0 := of_decide_eq_false hs0
      rw [getL_eq] at hfd
      unfold fieldsOf at hfd
      cases hd : T.und t with
      | none => rw [hd] at hfd; simp at hfd
      | some d =>
        rw [hd] at hfd
        have hu := hT.und hd
        cases d <;> (try simp only [] at hfd) <;> first | (simp at hfd; done) | skip
        rename_i fs
        refine ⟨_, g, fun ι x' w hx => ?_⟩
        obtain ⟨r', o, rfl, hf⟩ := hx.dP_inv
        have hf' : fs[n]? = some fd := by simpa using hfd
        refine ⟨.pointer (some ⟨r', o + off + fd.offset, none⟩), ?_, by rw [Nat.add_assoc]; exact .dPt _ _ _ _ hf⟩
        simp [Instr.fieldAt, run_underlying hu, hf', Instr.sureAddr, fieldPlace, hsz, hs0, addE]
  · cases g
  · cases g
  · exact opFieldAddr_ok hT g
theorem sliceD_ok {fr : Frame} {t : TypeId} {x : Value} {lo hi mx : Option Operand} {k : Value → Res} {r : Value × AH} (h : sliceD T fr t x lo hi mx k = some r) :
    ∃ v, k v = some r ∧ ∀ ι a x' w, VR ι x x' → (∀ y, lo = some y → AR ι fr a y) → (∀ y, hi = some y → AR ι fr a y) → (∀ y, mx = some y → AR ι fr a y) →
      ∃ v', (Instr.sliceAt t x' (lo.map a.eval) (hi.map a.eval) (mx.map a.eval)).run P w = .ok v' w ∧ VR ι v v' := by
  unfold sliceD at h
  rcases deepC_some h with ⟨z, cs, rfl, g⟩ | ⟨_, _, _, g⟩ | ⟨_, _, _, _, g⟩ | ⟨_, _, g⟩ | g
  · cases hd : T.und t with
    | none => rw [hd] at g; cases g
    | some d =>
      rw [hd] at g
      have hu := hT.und hd
      cases d <;> (try simp only [] at g) <;> first | (cases g; done) | skip
      rename_i e
      obtain ⟨i, hi1, g, hsz⟩ := sizeT_ok hT g
      obtain ⟨inf, zz, hinf, hs, _⟩ := (hT.get hi1).info
      obtain ⟨hc, g⟩ := cond_some g
      simp only [Bool.and_eq_true] at hc
      obtain ⟨hc1, hc2⟩ := hc
      have hc1 := Nat.eq_of_beq_eq_true hc1
      obtain ⟨l, hh, m, g, m1, b1, b2, b3, hb⟩ := boundsK_ok (P := P) (Nat.le_refl _) g
      -- the real slice
      have real : ∀ ι x', VR ι (dS z cs) x' → ∃ oa n cap, x' = .slice oa n cap ∧ n = dlen z cs ∧ n ≤ cap ∧ cs.length = n * z ∧ ((cs = [] ∧ cap = 0) ∨ ∃ r o, oa = some ⟨r, o, none⟩ ∧ ∀ i d, cs[i]? = some d → ι.fz r (o + i) d) := by
        intro ι x' hx
        obtain ⟨hz, hx⟩ := hx.dS_inv
        rcases hx with ⟨⟨oa, rfl⟩, rfl⟩ | ⟨n, cap, r', o, rfl, hl, hcap, hf⟩
        · exact ⟨oa, 0, 0, rfl, (dlen_nil z).symm, Nat.le_refl _, by simp, .inl ⟨rfl, rfl⟩⟩
        · exact ⟨_, n, cap, rfl, (dlen_of hz hl).symm, hcap, hl, .inr ⟨_, _, rfl, hf⟩⟩
      cases mx with
      | some y =>
        simp only [] at g
        obtain ⟨hml, g⟩ := cond_some g
        have hml := Nat.eq_of_beq_eq_true hml
        refine ⟨_, g, fun ι a x' w hx a1 a2 a3 => ?_⟩
        have hz := hx.dS_inv.1
        obtain ⟨oa, n, cap, rfl, hn, hcap, hl, hf⟩ := real ι x' hx
        have hb := hb ι a cap a1 a2 a3 (by omega)
        rw [← hn] at hb
        refine ⟨_, run_slice_slice hu hinf oa n cap _ _ _ _ _ _ w hb, ?_⟩
        have e1 : hh - l = 0 := by omega
        have e2 : m - l = 0 := by omega
        simp only [Option.isNone_some, Bool.false_eq_true, if_false, hml, if_true, e1, Nat.sub_self]
        cases oa with
        | none => exact .dEn _ hz
        | some ad => exact .dEe _ _ hz
      | none =>
        simp only [] at g
        refine ⟨_, g, fun ι a x' w hx a1 a2 a3 => ?_⟩
        have hz := hx.dS_inv.1
        obtain ⟨oa, n, cap, rfl, hn, hcap, hl, hf⟩ := real ι x' hx
        have hb := hb ι a cap a1 a2 a3 (by omega)
        rw [← hn] at hb
        refine ⟨_, run_slice_slice hu hinf oa n cap _ _ _ _ _ _ w hb, ?_⟩
        have hm := m1 rfl
        rw [← hn] at hm
        have hhl : hh ≤ n := by omega
        have hlen : (ddr z l (dtk z hh cs)).length = (hh - l) * z := by
          rw [ddr_eq]; unfold dtk
          rw [List.length_drop, List.length_take, hl, Nat.min_eq_left (Nat.mul_le_mul_right _ hhl), Nat.sub_mul]
        simp only [Option.isNone_none, if_true]
        rcases hf with ⟨rfl, rfl⟩ | ⟨b0, o0, rfl, hf2⟩
        · have e0 : n = 0 := by
            have : n * z = 0 := by simpa using hl.symm
            rcases Nat.mul_eq_zero.1 this with q | q <;> omega
          have e1 : hh - l = 0 := by omega
          have e3 : ddr z l (dtk z hh []) = [] := by rw [ddr_eq]; unfold dtk; simp
          rw [e3, e1]
          have e2 : 0 - l = 0 := by omega
          rw [e2]
          have e4 : 0 = l := by omega
          rw [if_pos e4]
          cases oa with
          | none => exact .dNil _ hz
          | some a' => exact .dSe _ _ hz
        · by_cases hcl : cap = l
          · subst hcl
            rw [if_pos rfl]
            refine .dSl _ _ _ _ _ _ hz hlen (by omega) (fun i d hd => ?_)
            have : (ddr z cap (dtk z hh cs)).length = 0 := by rw [hlen, show hh - cap = 0 by omega]; simp
            have h3 := (List.getElem?_eq_some_iff.1 hd).1
            omega
          · rw [if_neg hcl]
            simp only [Option.map_some, addE]
            refine .dSl _ _ _ _ _ _ hz hlen (by omega) (fun i d hd => ?_)
            rw [hs, hc1, Nat.add_assoc]
            apply hf2
            rw [ddr_eq] at hd
            unfold dtk at hd
            rw [List.getElem?_drop] at hd
            have h3 := (List.getElem?_eq_some_iff.1 hd).1
            simp at h3
            rw [List.getElem?_take_of_lt (by omega)] at hd
            exact hd
  · cases g
  · cases g
  · cases g
  · exact opSlice_ok hT g
end
theorem zeros_one {z : List Value} (h : ∀ d ∈ z, cellOk d = true) : ∀ n, ∀ d ∈ zeros z n, cellOk d = true := by
  intro n
  induction n with
  | zero => intro d hd; cases hd
  | succ n ih =>
    intro d hd
    rcases List.mem_append.1 (show d ∈ z ++ zeros z n from hd) with hd | hd
    · exact h d hd
    · exact ih d hd
section
variable {E : Env} {orc : Orc} {o : Oper} {fr : Frame} {H : AH} {k : K} {r : Value × AH}
def isMapOp : Op → Bool
  | .lookup .. | .insert .. | .mapUpdate .. => true
  | _ => false
theorem map_rank {op : Op} (h : isMapOp op = true) : rank op = 2 ∧ isMake op = false ∧ ∀ pol, quietCall pol op = false := by
  cases op <;> first | (cases h; done) | exact ⟨rfl, rfl, fun _ => rfl⟩
def isDeepOp : Op → Bool
  | .load .. | .store .. | .slice .. | .fieldAddr .. | .indexAddr .. | .nilCheck _ | .buildSlice .. | .makeSlice .. | .binOp .. => true
  | .call _ => true
  | _ => false
theorem evOpD_else (hd : isDeepOp o.op = false) (h : evOpD E orc o fr H k = some r) : evOpC E orc o fr H k = some r := by
  obtain ⟨dst, op, type, pos, after, guard⟩ := o
  unfold evOpD at h
  cases op <;> first | (cases hd; done) | exact h
theorem evOpC_else (hm : isMapOp o.op = false) (h : evOpC E orc o fr H k = some r) : evOp E orc o fr H k = some r := by
  obtain ⟨dst, op, type, pos, after, guard⟩ := o
  unfold evOpC at h
  cases op <;> first | exact h | (cases hm; done)
theorem builtin_back {dst : Option Tmp} {type : TypeId} {pos : String} {after : Array Edge} {guard : Option (Nat × Bool)} {b : Builtin} {as_ : Array Operand} {ats : Array TypeId} {vs : List Value} (hv : args fr as_.toList = some vs) (h : opBuiltin E.T b ats.toList vs H k = some r) :
    evOp E orc ⟨dst, .call ⟨.builtin b, as_, ats⟩, type, pos, after, guard⟩ fr H k = some r := by
  show (args fr as_.toList).bind (fun vs => opBuiltin E.T b ats.toList vs H k) = _
  rw [hv]; exact h
theorem pure_okD (hE : EnvOk E) (h : evOpD E orc o fr H k = some r) (hr : rank o.op = 0) (hm : isMapOp o.op = false) : ∃ v, k v H = some r ∧ Pures E o fr v := by
  cases hd : isDeepOp o.op with
  | false => exact pure_ok hE (evOpC_else hm (evOpD_else hd h)) hr
  | true =>
    obtain ⟨dst, op, type, pos, after, guard⟩ := o
    unfold evOpD at h
    cases op <;> first | (cases hd; done) | (simp [rank] at hr; done) | skip
    case binOp b t x y yt =>
      obtain ⟨v, h1, h2⟩ := pure_ok hE (orc := orc) (o := ⟨dst, .binOp b t x y yt, type, pos, after, guard⟩) (k := splitK E.pol b (arg fr y) k) h rfl
      exact ⟨v, splitK_some h1, h2⟩
    case slice t x lo hi mx =>
      obtain ⟨u, hu, h⟩ := Option.bind_eq_some_iff.1 h
      obtain ⟨z, h1, h2⟩ := sliceD_ok hE.fits h
      refine ⟨z, h1, fun ι a w ha => ?_⟩
      obtain ⟨v', h3, h4⟩ := h2 ι a (a.eval x) w (ar1 ha (by simp [Op.operands]) hu) (fun y hy => ha y (by simp [Op.operands, hy])) (fun y hy => ha y (by simp [Op.operands, hy])) (fun y hy => ha y (by simp [Op.operands, hy]))
      exact ⟨v', by simp only [execOp, Sem.run_bind, h3, Result.andThen_ok, Sem.run_pure], h4⟩
    case fieldAddr t x f =>
      obtain ⟨u, hu, h⟩ := Option.bind_eq_some_iff.1 h
      obtain ⟨z, h1, h2⟩ := fieldD_ok hE.fits h
      refine ⟨z, h1, fun ι a w ha => ?_⟩
      obtain ⟨v', h3, h4⟩ := h2 ι (a.eval x) w (ar1 ha (by simp [Op.operands]) hu)
      exact ⟨v', by simp only [execOp, Sem.run_bind, h3, Result.andThen_ok, Sem.run_pure], h4⟩
    case indexAddr t x y =>
      obtain ⟨u, hu, h⟩ := Option.bind_eq_some_iff.1 h
      obtain ⟨v, hv, h⟩ := Option.bind_eq_some_iff.1 h
      obtain ⟨z, h1, h2⟩ := indexD_ok hE.fits h
      refine ⟨z, h1, fun ι a w ha => ?_⟩
      obtain ⟨v', h3, h4⟩ := h2 ι (a.eval x) (a.eval y) w (ar1 ha (by simp [Op.operands]) hu) (ar1 ha (by simp [Op.operands]) hv)
      exact ⟨v', by simp only [execOp, Sem.run_bind, h3, Result.andThen_ok, Sem.run_pure], h4⟩
    case nilCheck x =>
      obtain ⟨v, hv, h⟩ := Option.bind_eq_some_iff.1 h
      rcases deepC_some h with ⟨_, _, _, g⟩ | ⟨off, cs, rfl, g⟩ | ⟨_, _, _, _, g⟩ | ⟨_, _, g⟩ | g
      · cases g
      · refine ⟨_, g, fun ι a w ha => ?_⟩
        have e1 := ar1 ha (by simp [Op.operands]) hv
        obtain ⟨r', o', e, hf⟩ := e1.dP_inv
        rw [e] at e1
        exact ⟨_, by simp [execOp, e], e1⟩
      · cases g
      · cases g
      · exact pure_ok hE (orc := orc) (o := ⟨dst, .nilCheck x, type, pos, after, guard⟩) g rfl
    case call c =>
      obtain ⟨callee, as_, ats⟩ := c
      cases callee with
      | builtin b =>
        obtain ⟨vs, hv, h⟩ := Option.bind_eq_some_iff.1 h
        cases b <;> first | (simp [rank] at hr; done) | exact pure_ok hE (builtin_back (orc := orc) (dst := dst) (type := type) (pos := pos) (after := after) (guard := guard) hv h) hr
      | _ => simp [rank] at hr
theorem make_okD (hE : EnvOk E) (h : evOpD E orc o fr H k = some r) (hm : isMake o.op = true) : ∃ x mk, k (mk H.len) (H.push x) = some r ∧ Makes E o fr x mk := by
  cases hd : isDeepOp o.op with
  | false => exact make_ok hE (evOpC_else (by obtain ⟨dst, op, type, pos, after, guard⟩ := o; cases op <;> first | rfl | (cases hm; done)) (evOpD_else hd h)) hm
  | true =>
    obtain ⟨dst, op, type, pos, after, guard⟩ := o
    unfold evOpD at h
    have slv : ∀ (ι : Emb) (b g n s : Nat), 0 < s → VR (ι.set b ⟨g, 0, 0⟩) (dB s b n) (.slice (some ⟨g, 0, none⟩) n n) := fun ι b g n s hs => by
      exact VR.dBl (ι := ι.set b ⟨g, 0, 0⟩) s b n n ⟨g, 0, 0⟩ (Emb.set_same _ _ _) hs (Nat.le_refl _) (by simp)
    cases op <;> simp only [] at h hm <;> (first | (cases h; done) | (cases hm; done) | (cases hd; done) | skip)
    case buildSlice t n ps =>
      obtain ⟨vs, hv, h⟩ := Option.bind_eq_some_iff.1 h
      unfold buildSliceD at h
      cases hd : E.T.und t with
      | none => rw [hd] at h; cases h
      | some d =>
        rw [hd] at h
        have hud := hE.fits.und hd
        cases d <;> (try simp only [] at h) <;> first | (cases h; done) | skip
        rename_i e
        obtain ⟨j, hj, h, hsz⟩ := sizeT_ok hE.fits h
        obtain ⟨hc, h⟩ := cond_some h
        simp only [Bool.and_eq_true, decide_eq_true_eq] at hc
        obtain ⟨i, z, hg, h, hz, zp, zs, zc, zl, zr, zrs, zt, zag, zno⟩ := zeroOf_ok hE.fits h
        obtain ⟨hzl, h⟩ := cond_some h
        have hzl := of_decide_eq_true hzl
        obtain ⟨c, hcf, h⟩ := Option.bind_eq_some_iff.1 h
        have cellsM : Makes E ⟨dst, .buildSlice t n ps, type, pos, after, guard⟩ fr (.cells c) (fun b => dB j.size b n) := by
          refine makes_cells fun ι a w ha => ?_
          obtain ⟨p1, p2⟩ := parts_some hv ι a (fun x hx => ha x.2 (by simp only [Op.operands]; simp; exact ⟨x.1, by simpa using hx⟩))
          obtain ⟨c', f1, f2⟩ := fillL_ok hcf ι (zeros i.zero n) (ps.map fun x => (x.1, a.eval x.2)).toList (zeros_rel (zrs ι) n) (by rw [p1]; simp) (by
            have : (ps.map fun x => (x.1, a.eval x.2)).toList.map (·.2) = ps.toList.map fun x => a.eval x.2 := by simp
            rw [this]; exact p2)
          refine ⟨c', e, _, ?_, f2, fun b => slv ι b w.heap.size n j.size hc.2⟩
          have zt' : z.cells = ⟨i.zero⟩ := by apply Array.ext'; exact zt
          have hle : ¬ n * j.size > 2 ^ 24 := by omega
          have hzs := zeros_spec i.zero (by omega) n
          rw [hzl] at hzs
          simp only [execOp, Instr.buildSlice, Sem.run_bind, run_underlying hud, Result.andThen_ok, hsz, if_neg hle, Sem.run_pure, pure_bind]
          by_cases hn0 : n * j.size = 0
          · have hn : n = 0 := by rcases Nat.mul_eq_zero.1 hn0 with h | h <;> omega
            subst hn
            have : ((Array.range (0 * j.size)).map (fun x => (#[] : Array Value)[x % (#[] : Array Value).size]!)) = (⟨zeros i.zero 0⟩ : Array Value) := by simp
            simp only [if_pos hn0, Sem.run_pure, Result.andThen_ok, this, f1, newRow, Sem.run_bind, run_newObj]
          · simp only [if_neg hn0, Sem.run_bind, hz, Result.andThen_ok, Sem.run_pure, zt', newRow, run_newObj]
            have e1 : ((Array.range (n * j.size)).map (fun x => (⟨i.zero⟩ : Array Value)[x % (⟨i.zero⟩ : Array Value).size]!)) = ⟨zeros i.zero n⟩ := by
              have : (⟨i.zero⟩ : Array Value).size = j.size := by simpa using hzl
              rw [this]; exact hzs
            simp only [e1, f1, Sem.run_bind, run_newObj, Result.andThen_ok, Sem.run_pure]
        cases hall : c.all cellOk with
        | false =>
          rw [hall, cond_false] at h
          exact ⟨.cells c, fun b => dB j.size b n, h, cellsM⟩
        | true =>
          rw [hall, cond_true] at h
          refine ⟨.bld c, fun b => dB j.size b n, h, fun ι a w ha => ?_⟩
          obtain ⟨o', v', s1, s2⟩ := cellsM ι a w ha
          exact ⟨o', v', s1, fun b hb => ⟨BR.ofX (.inr rfl) (s2 b hb).1 (fun _ d hd => List.all_eq_true.1 hall d hd), (s2 b hb).2⟩⟩
    case makeSlice t l c =>
      obtain ⟨u, hu, h⟩ := Option.bind_eq_some_iff.1 h
      obtain ⟨v, hv, h⟩ := Option.bind_eq_some_iff.1 h
      unfold makeSliceD at h
      cases hd : E.T.und t with
      | none => rw [hd] at h; cases h
      | some d =>
        rw [hd] at h
        have hud := hE.fits.und hd
        cases d <;> (try simp only [] at h) <;> first | (cases h; done) | skip
        rename_i e
        obtain ⟨k1, n1, hq, h0⟩ := asI_ok h
        clear h; subst hq
        obtain ⟨k2, n2, hq, h⟩ := asI_ok h0
        clear h0; subst hq
        obtain ⟨i, hi, h⟩ := Option.bind_eq_some_iff.1 h
        obtain ⟨hc, h5⟩ := cond_some h
        simp only [Bool.and_eq_true, decide_eq_true_eq] at hc
        obtain ⟨⟨⟨c1, c2⟩, c3⟩, c4⟩ := hc
        clear h
        subst c2
        obtain ⟨i', z, hg, h, hz, zp, zs, zc, zl, zr, zrs, zt, zag, zno⟩ := zeroOf_ok hE.fits h5
        rw [hi] at hg
        simp at hg
        subst hg
        obtain ⟨hz2, h⟩ := cond_some h
        simp only [Bool.and_eq_true, decide_eq_true_eq] at hz2
        obtain ⟨⟨hz2, hz3⟩, hz4⟩ := hz2
        have hzo : ∀ d ∈ zeros i.zero n1.toNat, cellOk d = true := zeros_one (fun d hd => List.all_eq_true.1 hz4 d hd) _
        obtain ⟨inf, z', q1, q2, q3, q4, _⟩ := (hE.fits.get hi).info
        have cellsM : Makes E ⟨dst, .makeSlice t l c, type, pos, after, guard⟩ fr (.cells (zeros i.zero n1.toNat)) (fun b => dB i.size b n1.toNat) := by
          refine makes_cells fun ι a w ha => ?_
          have e1 := ar1 ha (by simp [Op.operands]) hu
          have e2 := ar1 ha (by simp [Op.operands]) hv
          generalize hg1 : a.eval l = x1 at e1
          generalize hg2 : a.eval c = x2 at e2
          cases e1; cases e2
          refine ⟨zeros i.zero n1.toNat, e, _, ?_, zeros_rel (zrs ι) _, fun b => slv ι b w.heap.size _ _ (by omega)⟩
          have w1 : IntKind.i64.wrap n1 = n1 := by simp [IntKind.wrap, IntKind.signed, IntKind.bits] at *; omega
          have hb : ¬ (n1 < 0 ∨ (inf.bytes : Int) * n1 > 2 ^ 48) := by
            rw [q3]; intro hh; rcases hh with hh | hh <;> omega
          have zt' : z.cells = ⟨i.zero⟩ := by apply Array.ext'; exact zt
          have hzs := zeros_spec i.zero (by omega) n1.toNat
          have hlen0 : i.zero.length = inf.size := by omega
          simp only [execOp, Instr.makeSlice, Sem.run_bind, run_underlying hud, Result.andThen_ok, hg1, hg2, asInt, asIntOf, Sem.run_pure, run_typeInfo q1, w1]
          have hcond : ((decide (n1 < 0) || decide ((inf.bytes : Int) * n1 > 2 ^ 48)) || decide (n1 < 0) || decide (n1 > n1)) = false := by
            simp only [Bool.or_eq_false_iff, decide_eq_false_iff_not]
            refine ⟨⟨⟨fun h => hb (.inl h), fun h => hb (.inr h)⟩, by omega⟩, by omega⟩
          rw [if_neg (by rw [hcond]; simp)]
          simp only [Sem.run_bind, Sem.run_pure, run_askRoom, Result.andThen_ok, run_sizeOf q1]
          by_cases hn0 : n1.toNat * inf.size = 0
          · have hn : n1.toNat = 0 := by rcases Nat.mul_eq_zero.1 hn0 with h | h <;> omega
            simp only [hn, Nat.zero_mul, if_true, Sem.run_pure, Result.andThen_ok, newRow, Sem.run_bind, run_newObj, zeros_zero, show Array.range 0 = #[] from by simp [← Array.toList_inj]]
            simp
          · simp only [if_neg hn0, Sem.run_bind, hz, Result.andThen_ok, Sem.run_pure, zt', newRow, run_newObj]
            have e1 : ((Array.range (n1.toNat * inf.size)).map (fun x => (⟨i.zero⟩ : Array Value)[x % (⟨i.zero⟩ : Array Value).size]!)) = ⟨zeros i.zero n1.toNat⟩ := by
              have e2 : (⟨i.zero⟩ : Array Value).size = i.zero.length := rfl
              rw [e2, ← hlen0]; exact hzs
            simp only [e1, run_newObj, Result.andThen_ok, Sem.run_pure]
        refine ⟨.bld (zeros i.zero n1.toNat), fun b => dB i.size b n1.toNat, h, fun ι a w ha => ?_⟩
        obtain ⟨o', v', s1, s2⟩ := cellsM ι a w ha
        refine ⟨o', v', s1, fun b hb => ⟨BR.ofX (.inr rfl) (s2 b hb).1 (fun _ => hzo), (s2 b hb).2⟩⟩
theorem loadD_ok (hE : EnvOk E) {dst : Option Tmp} {type : TypeId} {pos : String} {after : Array Edge} {guard : Option (Nat × Bool)} {t : TypeId} {x : Operand} {u : Value} (hu : arg fr x = some u) {kk : Value → Res} (h : loadD E.T t u H kk = some r) :
    ∃ v, kk v = some r ∧ Reads E ⟨dst, .load t x, type, pos, after, guard⟩ fr H v ∧ ∀ c, readAt ⟨dst, .load t x, type, pos, after, guard⟩ fr H = some c → c < H.len := by
  have deep : ∀ u', u = u' → deepC u' (fun _ _ => none) (fun off cs => readD E.T t cs off kk) (fun _ _ _ => none) (fun _ => none) none = some r → ∃ v, kk v = some r ∧ Reads E ⟨dst, .load t x, type, pos, after, guard⟩ fr H v ∧ ∀ c, readAt ⟨dst, .load t x, type, pos, after, guard⟩ fr H = some c → c < H.len := by
    intro u' e h
    subst e
    rcases deepC_some h with ⟨_, _, _, g⟩ | ⟨off, cs, rfl, g⟩ | ⟨_, _, _, _, g⟩ | ⟨_, _, g⟩ | g
    · cases g
    · obtain ⟨v, h1, h2⟩ := readD_ok hE.fits g
      refine ⟨v, h1, fun B ι H2 a w hH ha hb => ?_, fun c hc => by simp [readAt, hu] at hc⟩
      have e1 := ar1 ha (by simp [Op.operands]) hu
      obtain ⟨r', o', e, hf⟩ := e1.dP_inv
      obtain ⟨v', q1, q2⟩ := h2 ι w r' o' (hH.holdsF hf)
      exact ⟨v', by simp only [execOp, Instr.loadAt, e, Instr.sureAddr, Sem.run_bind, Sem.run_pure, Result.andThen_ok, q1], q2⟩
    · cases g
    · cases g
    · cases g
  unfold loadD at h
  cases u with
  | pointer oa =>
    cases oa with
    | none => exact deep _ rfl h
    | some ad =>
      simp only [] at h
      rcases bldAt_some h with ⟨cs, hb0, g⟩ | ⟨_, g⟩
      · obtain ⟨v, h1, h2⟩ := readD_ok hE.fits g
        refine ⟨v, h1, fun B ι H2 a w hH ha hb => ?_, fun c hc => ?_⟩
        · have e1 := ar1 ha (by simp [Op.operands]) hu
          generalize hg' : a.eval x = cc at e1
          cases e1 with | ptr b o' j hj => ?_
          have hb2 := hb b (by simp [readAt, hu])
          rw [hb0] at hb2
          obtain ⟨v', q1, q2⟩ := h2 ι w j.blk j.sh (hH.holds hj hb2 (.inr rfl))
          exact ⟨v', by simp only [execOp, Instr.loadAt, hg', Instr.sureAddr, Sem.run_bind, Sem.run_pure, Result.andThen_ok, q1], q2⟩
        · simp [readAt, hu] at hc
          subst hc
          exact (List.getElem?_eq_some_iff.1 hb0).1
      · cases hg : isAggT E.T t with
        | true =>
          rw [hg, cond_true] at g
          obtain ⟨i, hi, g, hsz⟩ := sizeT_ok hE.fits g
          obtain ⟨c, hc, hle, g, hl⟩ := loadN_ok g
          refine ⟨_, g, fun B ι H2 a w hH ha hb => ?_, fun c' hc' => ?_⟩
          · have e1 := ar1 ha (by simp [Op.operands]) hu
            generalize hg' : a.eval x = cc at e1
            cases e1 with | ptr b o' j hj => ?_
            obtain ⟨l', l1, l2, l3⟩ := hl (P := E.P) B ι H2 w j hH hj (hb b (by simp [readAt, hu]))
            refine ⟨.agg ⟨l'⟩, ?_, .agg _ _ l1⟩
            simp only [execOp, Instr.loadAt, hg', Instr.sureAddr, loadVar, Sem.run_bind, Sem.run_pure, Result.andThen_ok, isAggT_ok hE.fits hg, if_true, hsz, l3]
          · simp [readAt, hu] at hc'
            subst hc'
            exact (List.getElem?_eq_some_iff.1 hc).1
        | false =>
          rw [hg, cond_false] at g
          obtain ⟨c, v, hc, hv, g, hl⟩ := load1_ok g
          obtain ⟨hgt, g⟩ := cond_some g
          obtain ⟨i, hi⟩ := Option.isSome_iff_exists.1 hgt
          refine ⟨v, g, fun B ι H2 a w hH ha hb => ?_, fun c' hc' => ?_⟩
          · have e1 := ar1 ha (by simp [Op.operands]) hu
            generalize hg' : a.eval x = cc at e1
            cases e1 with | ptr b o' j hj => ?_
            obtain ⟨v', l1, l2⟩ := hl (P := E.P) B ι H2 w j hH hj (hb b (by simp [readAt, hu]))
            refine ⟨v', ?_, l1⟩
            simp only [execOp, Instr.loadAt, hg', Instr.sureAddr, loadVar, Sem.run_bind, Sem.run_pure, Result.andThen_ok, isAggT_no hE.fits hi hg, Bool.false_eq_true, if_false, l2]
          · simp [readAt, hu] at hc'
            subst hc'
            exact (List.getElem?_eq_some_iff.1 hc).1
  | _ => exact deep _ rfl h
theorem read_okD (hE : EnvOk E) (h : evOpD E orc o fr H k = some r) (hr : rank o.op = 1) (hm : isMake o.op = false) : ∃ v, k v H = some r ∧ Reads E o fr H v ∧ ∀ c, readAt o fr H = some c → c < H.len := by
  cases hd : isDeepOp o.op with
  | false =>
    have hm0 : isMapOp o.op = false := by cases hq : isMapOp o.op with | false => rfl | true => have := (map_rank hq).1; omega
    have h' := evOpC_else hm0 (evOpD_else hd h)
    obtain ⟨v, h1, h2⟩ := read_ok hE h' hr hm
    exact ⟨v, h1, h2, fun c hc => read_lt h' hr hm hc⟩
  | true =>
    obtain ⟨dst, op, type, pos, after, guard⟩ := o
    unfold evOpD at h
    cases op <;> simp only [] at h hm <;> first | (cases hd; done) | (cases hm; done) | (simp [rank] at hr; done) | skip
    case load t x =>
      obtain ⟨u, hu, h⟩ := Option.bind_eq_some_iff.1 h
      exact loadD_ok hE hu h
    case call c =>
      obtain ⟨callee, as_, ats⟩ := c
      cases callee with
      | builtin b =>
        obtain ⟨vs, hv, h⟩ := Option.bind_eq_some_iff.1 h
        have back : opBuiltin E.T b ats.toList vs H k = some r → ∃ v, k v H = some r ∧ Reads E ⟨dst, .call ⟨.builtin b, as_, ats⟩, type, pos, after, guard⟩ fr H v ∧ ∀ c, readAt ⟨dst, .call ⟨.builtin b, as_, ats⟩, type, pos, after, guard⟩ fr H = some c → c < H.len := by
          intro h
          have h' := builtin_back (orc := orc) (dst := dst) (type := type) (pos := pos) (after := after) (guard := guard) hv h
          obtain ⟨v, h1, h2⟩ := read_ok hE h' hr rfl
          exact ⟨v, h1, h2, fun c hc => by simp [readAt] at hc⟩
        cases b <;> first | (simp [rank] at hr; done) | exact back h | skip
        -- len
        have h : lenD E.T ats.toList vs H (fun v => k v H) (opBuiltin E.T .len ats.toList vs H k) = some r := h
        unfold lenD at h
        cases vs with
        | nil => exact back h
        | cons x xs =>
          simp only [] at h
          cases hts : ats.toList with
          | nil => rw [hts] at h; cases h
          | cons t ts =>
          rw [hts] at h
          simp only [] at h
          cases hdt : E.T.und t with
          | none => rw [hdt] at h; simp only [] at h; rw [← hts] at h; exact back h
          | some d =>
          rw [hdt] at h
          have hud := hE.fits.und hdt
          cases d <;> (try simp only [] at h) <;> first | (rw [← hts] at h; exact back h) | skip
          rename_i e
          have hat : ats[0]? = some t := by rw [← Array.getElem?_toList, hts]; rfl
          have lenv : ∀ (n : Nat), k (.int .i64 n) H = some r → (∀ ι x' (w : World), VR ι x x' → ∃ oa cp, x' = .slice oa n cp) → ∃ v, k v H = some r ∧ Reads E ⟨dst, .call ⟨.builtin .len, as_, ats⟩, type, pos, after, guard⟩ fr H v ∧ ∀ c, readAt ⟨dst, .call ⟨.builtin .len, as_, ats⟩, type, pos, after, guard⟩ fr H = some c → c < H.len := by
            intro n g hx
            refine ⟨_, g, fun B ι H2 a w hH ha hb => ?_, fun c hc => by simp [readAt] at hc⟩
            have hrs := argsR hv ι a fun x hx => ha x (by simp [Op.operands, Call.operands]; simpa using hx)
            generalize hg : as_.toList.map a.eval = L at hrs
            cases hrs with | cons _ x' _ xs' e1 e2 => ?_
            obtain ⟨oa, cp, rfl⟩ := hx ι x' w e1
            refine ⟨_, ?_, .int _ _⟩
            have e1 : as_.map a.eval = ⟨.slice oa n cp :: xs'⟩ := by apply Array.ext'; simpa using hg
            simp [execOp, resolve, invoke, builtin, e1, Builtin.len_, hat, run_underlying hud, goInt]
          rcases deepC_some h with ⟨z, cs, rfl, g⟩ | ⟨_, _, _, g⟩ | ⟨z, b, n, rfl, g⟩ | ⟨z, rfl, g⟩ | g
          · obtain ⟨_, g⟩ := cond_some g
            refine lenv _ g fun ι x' w hx => ?_
            obtain ⟨hz, hx⟩ := hx.dS_inv
            rcases hx with ⟨⟨oa, rfl⟩, rfl⟩ | ⟨n, cap, r', o, rfl, hl, hcap, hf⟩
            · rw [dlen_nil]; exact ⟨_, _, rfl⟩
            · rw [dlen_of hz hl]; exact ⟨_, _, rfl⟩
          · cases g
          · refine lenv _ g fun ι x' w hx => ?_
            obtain ⟨hz, hx⟩ := hx.dB_inv
            rcases hx with ⟨rfl, oa, rfl, _⟩ | ⟨k', j, hj, rfl, hk, hex⟩ <;> exact ⟨_, _, rfl⟩
          · refine lenv 0 g fun ι x' w hx => ?_
            obtain ⟨hz, oa, rfl, _⟩ := hx.dE_inv
            exact ⟨_, _, rfl⟩
          · rw [← hts] at g; exact back g
      | _ => simp [rank] at hr
end
end Go.Proofs.Yteljeekapcenlaa.Ev
