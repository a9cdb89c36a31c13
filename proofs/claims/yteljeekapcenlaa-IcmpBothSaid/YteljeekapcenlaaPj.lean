/-
  Between which addresses a datagram may go through: one way as the other one. No conditions.
-/
import Derived.Test.YteljeekapcenlaaIb
import Derived.Test.YteljeekapcenlaaEvGg
namespace Go.Proofs.Yteljeekapcenlaa
open Go Go.RowKit
set_option linter.unusedVariables false
set_option linter.unusedSimpArgs false

theorem i_Right (a : T_api_Addr) : ∃ b, F_addr_Right a = some b := by
  unfold F_addr_Right N_addr_Right
  cases a.Fam == 4 <;> cases a.Hi == 0 <;> cases a.Fam == 6 <;> exact ⟨_, rfl⟩
theorem i_bad (a : T_api_Addr) : ∃ b, F_icmp_Ends_1 a = some b := by
  unfold F_icmp_Ends_1 N_icmp_Ends_1 F_tuple_Local N_tuple_Local F_tuple_Multicast N_tuple_Multicast F_icmp_Near N_icmp_Near
  obtain ⟨b, h⟩ := i_Right a
  simp only [h, Ev.bnd_some]
  show Ev.Tot _
  repeat' (first | with_reducible exact Ev.Tot.some _ | with_reducible refine Ev.Tot.cond ?_ ?_ | with_reducible refine Ev.Tot.bnd ?_ (fun _ => ?_))

theorem lawd_IcmpBoth (x0 : T_api_Addr) (x1 : T_api_Addr) (r0 : IntKind.i64.has x0.Fam ∧ IntKind.u64.has x0.Hi ∧ IntKind.u64.has x0.Lo) (r1 : IntKind.i64.has x1.Fam ∧ IntKind.u64.has x1.Hi ∧ IntKind.u64.has x1.Lo) : F_law21_IcmpBoth x0 x1 = some true := by
  obtain ⟨p0, hp0⟩ := i_Right x0
  obtain ⟨p1, hp1⟩ := i_Right x1
  obtain ⟨e0, he0⟩ := i_bad x0
  obtain ⟨e1, he1⟩ := i_bad x1
  unfold F_law21_IcmpBoth N_law21_IcmpBoth F_icmp_Ends N_icmp_Ends
  have hc : (x1.Fam != x0.Fam) = (x0.Fam != x1.Fam) := by
    by_cases h : x0.Fam = x1.Fam
    · rw [h]
    · rw [bne_iff_ne.2 h, bne_iff_ne.2 (Ne.symm h)]
  have hs : (x0.Fam != x0.Fam) = false := by simp
  have hi : F_r05_IsEcho 4 8 = some true := rfl
  have ha : F_law21_alive = some true := rfl
  simp only [hp0, hp1, he0, he1, Ev.bnd_some, hc, hs, hi, ha]
  cases p0 <;> cases p1 <;> cases (x0.Fam != x1.Fam) <;> cases e0 <;> cases e1 <;> rfl

end Go.Proofs.Yteljeekapcenlaa
