/-
  Icmp: three laws. No conditions.
-/
import Derived.Test.YteljeekapcenlaaPg
namespace Go.Proofs.Yteljeekapcenlaa
open Go Go.RowKit
set_option linter.unusedVariables false
set_option linter.unusedSimpArgs false

theorem right_eq (f : Int) (h l : Nat) : ∃ b, F_addr_Right ⟨f, h, l⟩ = some b ∧ F_r02_Right ⟨f, h, l⟩ = some b := by
  rcases cases3 f h l with rfl | ⟨rfl, rfl, hl⟩ | ⟨h1, h2⟩
  · exact ⟨true, cR6 h l⟩
  · exact ⟨true, cR4 l hl⟩
  · exact ⟨false, h1, h2⟩

theorem bad_p (a : T_api_Addr) (lo mu ne : Bool) (h1 : F_tuple_Local a = some lo) (h2 : F_tuple_Multicast a = some mu) (h3 : F_icmp_Near a = some ne) : F_icmp_Ends_1 a = some (lo || (mu || ne)) := by
  unfold F_icmp_Ends_1 N_icmp_Ends_1
  simp only [h1, h2, h3, Ev.bnd_some]
  cases lo <;> cases mu <;> rfl

theorem ends_two (k : Nat) (a b : T_api_Addr) (lo mu ne lo2 mu2 ne2 : Bool) (h1 : F_r14_Local a = some lo) (h2 : F_r14_Multicast a = some mu) (h3 : F_r21_Near a = some ne)
    (g1 : F_r14_Local b = some lo2) (g2 : F_r14_Multicast b = some mu2) (g3 : F_r21_Near b = some ne2) (m : Nat) :
    N_r21_Ends_5 F_r02_Right F_r14_Local F_r14_Multicast F_r21_Near m (k + 3) 2 0 [Value.int IntKind.i64 a.Fam, Value.int IntKind.u64 a.Hi, Value.int IntKind.u64 a.Lo, Value.int IntKind.i64 b.Fam, Value.int IntKind.u64 b.Hi, Value.int IntKind.u64 b.Lo] =
      some (bif lo || (mu || ne) then 24 else bif lo2 || (mu2 || ne2) then 24 else 0) := by
  rw [N_r21_Ends_5]
  change Ev.bnd (F_r14_Local a) (fun v6 => bif v6 then some 24 else Ev.bnd (F_r14_Multicast a) fun v7 => bif v7 then some 24 else Ev.bnd (F_r21_Near a) fun v8 => bif v8 then some 24 else
    N_r21_Ends_5 F_r02_Right F_r14_Local F_r14_Multicast F_r21_Near m (k + 2) 2 1 [Value.int IntKind.i64 a.Fam, Value.int IntKind.u64 a.Hi, Value.int IntKind.u64 a.Lo, Value.int IntKind.i64 b.Fam, Value.int IntKind.u64 b.Hi, Value.int IntKind.u64 b.Lo]) = _
  rw [N_r21_Ends_5]
  change Ev.bnd (F_r14_Local a) (fun v6 => bif v6 then some 24 else Ev.bnd (F_r14_Multicast a) fun v7 => bif v7 then some 24 else Ev.bnd (F_r21_Near a) fun v8 => bif v8 then some 24 else
    Ev.bnd (F_r14_Local b) (fun v6 => bif v6 then some 24 else Ev.bnd (F_r14_Multicast b) fun v7 => bif v7 then some 24 else Ev.bnd (F_r21_Near b) fun v8 => bif v8 then some 24 else
    N_r21_Ends_5 F_r02_Right F_r14_Local F_r14_Multicast F_r21_Near m (k + 1) 2 2 [Value.int IntKind.i64 a.Fam, Value.int IntKind.u64 a.Hi, Value.int IntKind.u64 a.Lo, Value.int IntKind.i64 b.Fam, Value.int IntKind.u64 b.Hi, Value.int IntKind.u64 b.Lo])) = _
  rw [N_r21_Ends_5]
  simp only [h1, h2, h3, g1, g2, g3, Ev.bnd_some]
  cases lo <;> cases mu <;> cases ne <;> cases lo2 <;> cases mu2 <;> cases ne2 <;> rfl

theorem lawd_IcmpNears (x0 : T_api_Addr) (r0 : IntKind.i64.has x0.Fam ∧ IntKind.u64.has x0.Hi ∧ IntKind.u64.has x0.Lo) : F_law21_IcmpNears x0 = some true := by
  obtain ⟨f, h, l, rfl, hh, hl⟩ := addr_nat x0 r0.2.1 r0.2.2
  unfold F_law21_IcmpNears N_law21_IcmpNears
  have ha : F_law21_alive = some true := rfl
  simp only [near_p, near_r f h l hh hl, group_p, group_r f h l hh hl, ha, Ev.bnd_some, beq_self_eq_true, cond_true]
  have ap := apart f h l
  cases hn : nearN f h l
  · rfl
  · rw [hn, Bool.true_and] at ap
    rw [ap]
    rfl

theorem lawd_IcmpEnds (x0 : T_api_Addr) (x1 : T_api_Addr) (r0 : IntKind.i64.has x0.Fam ∧ IntKind.u64.has x0.Hi ∧ IntKind.u64.has x0.Lo) (r1 : IntKind.i64.has x1.Fam ∧ IntKind.u64.has x1.Hi ∧ IntKind.u64.has x1.Lo) : F_law21_IcmpEnds x0 x1 = some true := by
  obtain ⟨f, h, l, rfl, hh, hl⟩ := addr_nat x0 r0.2.1 r0.2.2
  obtain ⟨g, i, j, rfl, hi, hj⟩ := addr_nat x1 r1.2.1 r1.2.2
  obtain ⟨b0, p0, q0⟩ := right_eq f h l
  obtain ⟨b1, p1, q1⟩ := right_eq g i j
  obtain ⟨lo, s1, t1⟩ := local_eq f h l hh hl
  obtain ⟨mu, s2, t2⟩ := multi_eq f h l hh hl
  obtain ⟨lo2, s3, t3⟩ := local_eq g i j hi hj
  obtain ⟨mu2, s4, t4⟩ := multi_eq g i j hi hj
  have e1 := bad_p _ _ _ _ s1 s2 (near_p f h l)
  have e2 := bad_p _ _ _ _ s3 s4 (near_p g i j)
  have hp : F_icmp_Ends ⟨f, h, l⟩ ⟨g, i, j⟩ = some (bif b0 && (b1 && !(f != g)) then (bif lo || (mu || nearN f h l) then 24 else bif lo2 || (mu2 || nearN g i j) then 24 else 0) else 1) := by
    unfold F_icmp_Ends N_icmp_Ends
    simp only [p0, p1, e1, e2, Ev.bnd_some]
    cases b0 <;> cases b1 <;> cases (f != g) <;> cases (lo || (mu || nearN f h l)) <;> cases (lo2 || (mu2 || nearN g i j)) <;> rfl
  have hr : F_r21_Ends ⟨f, h, l⟩ ⟨g, i, j⟩ = some (bif b0 && (b1 && !(f != g)) then (bif lo || (mu || nearN f h l) then 24 else bif lo2 || (mu2 || nearN g i j) then 24 else 0) else 1) := by
    unfold F_r21_Ends
    refine Ev.lim_eq 5 fun m hm => ?_
    obtain ⟨k, rfl⟩ : ∃ k, m = k + 3 := ⟨m - 3, by omega⟩
    unfold N_r21_Ends
    have e3 := ends_two k ⟨f, h, l⟩ ⟨g, i, j⟩ lo mu _ lo2 mu2 _ t1 t2 (near_r f h l hh hl) t3 t4 (near_r g i j hi hj) (k + 3)
    dsimp only at e3
    simp only [q0, q1, Ev.bnd_some, e3]
    cases b0 <;> cases b1 <;> cases (f != g) <;> rfl
  unfold F_law21_IcmpEnds N_law21_IcmpEnds
  have ha : F_law21_alive = some true := rfl
  simp only [hp, hr, ha, Ev.bnd_some, beq_self_eq_true, cond_true]

theorem lawd_IcmpNeighbours (x0 : D_api_Seg) (x1 : Int) (r0 : IntKind.i64.has x0.Tuple_Fam ∧ IntKind.i64.has x0.Tuple_Proto ∧ IntKind.i64.has x0.Tuple_Src_Fam ∧ IntKind.u64.has x0.Tuple_Src_Hi ∧ IntKind.u64.has x0.Tuple_Src_Lo ∧ IntKind.i64.has x0.Tuple_Dst_Fam ∧ IntKind.u64.has x0.Tuple_Dst_Hi ∧ IntKind.u64.has x0.Tuple_Dst_Lo ∧ IntKind.i64.has x0.Tuple_Sport ∧ IntKind.i64.has x0.Tuple_Dport ∧ IntKind.i64.has x0.Flags ∧ IntKind.u32.has x0.Seq ∧ IntKind.u32.has x0.Ack ∧ IntKind.i64.has x0.Win ∧ IntKind.i64.has x0.Type_ ∧ IntKind.i64.has x0.Code ∧ IntKind.i64.has x0.Inner_Fam ∧ IntKind.i64.has x0.Inner_Proto ∧ IntKind.i64.has x0.Inner_Src_Fam ∧ IntKind.u64.has x0.Inner_Src_Hi ∧ IntKind.u64.has x0.Inner_Src_Lo ∧ IntKind.i64.has x0.Inner_Dst_Fam ∧ IntKind.u64.has x0.Inner_Dst_Hi ∧ IntKind.u64.has x0.Inner_Dst_Lo ∧ IntKind.i64.has x0.Inner_Sport ∧ IntKind.i64.has x0.Inner_Dport ∧ Ev.SlT 1 [.k (.int .u8)] x0.Data) (r1 : IntKind.i64.has x1) : F_law21_IcmpNeighbours x0 x1 = some true := by
  obtain ⟨f, h, l, eS, hh, hl⟩ := addr_nat ⟨x0.Tuple_Src_Fam, x0.Tuple_Src_Hi, x0.Tuple_Src_Lo⟩ r0.2.2.2.1 r0.2.2.2.2.1
  obtain ⟨g, i, j, eD, hi, hj⟩ := addr_nat ⟨x0.Tuple_Dst_Fam, x0.Tuple_Dst_Hi, x0.Tuple_Dst_Lo⟩ r0.2.2.2.2.2.2.1 r0.2.2.2.2.2.2.2.1
  have s1 : F_icmp_Near ⟨x0.Tuple_Src_Fam, x0.Tuple_Src_Hi, x0.Tuple_Src_Lo⟩ = some (nearN f h l) := by rw [eS]; exact near_p f h l
  have s2 : F_r21_Near ⟨x0.Tuple_Src_Fam, x0.Tuple_Src_Hi, x0.Tuple_Src_Lo⟩ = some (nearN f h l) := by rw [eS]; exact near_r f h l hh hl
  have d1 : F_icmp_Near ⟨x0.Tuple_Dst_Fam, x0.Tuple_Dst_Hi, x0.Tuple_Dst_Lo⟩ = some (nearN g i j) := by rw [eD]; exact near_p g i j
  have d2 : F_r21_Near ⟨x0.Tuple_Dst_Fam, x0.Tuple_Dst_Hi, x0.Tuple_Dst_Lo⟩ = some (nearN g i j) := by rw [eD]; exact near_r g i j hi hj
  have d3 : F_icmp_Group ⟨x0.Tuple_Dst_Fam, x0.Tuple_Dst_Hi, x0.Tuple_Dst_Lo⟩ = some (groupN g i j) := by rw [eD]; exact group_p g i j
  have d4 : F_r21_Group ⟨x0.Tuple_Dst_Fam, x0.Tuple_Dst_Hi, x0.Tuple_Dst_Lo⟩ = some (groupN g i j) := by rw [eD]; exact group_r g i j hi hj
  have hn : F_r21_none ⟨x0.Tuple_Src_Fam, x0.Tuple_Src_Hi, x0.Tuple_Src_Lo⟩ = some (x0.Tuple_Src_Fam == 6 && (x0.Tuple_Src_Hi == 0 && (x0.Tuple_Src_Lo == 0 && true))) := rfl
  have hs : F_icmp_Neighbour x0 x1 = F_r21_Neighbour x0 x1 := by
    unfold F_icmp_Neighbour N_icmp_Neighbour F_r21_Neighbour N_r21_Neighbour
    simp only [s1, s2, d1, d2, d3, d4, hn, Ev.bnd_some]
    generalize (x0.Tuple_Src_Fam == 6 && (x0.Tuple_Src_Hi == 0 && (x0.Tuple_Src_Lo == 0 && true))) = z
    generalize nearN f h l = a
    generalize nearN g i j = b
    generalize groupN g i j = c
    cases (x0.Tuple_Fam != 6)
    rotate_left
    · rfl
    cases (x0.Tuple_Proto != 58)
    rotate_left
    · rfl
    cases Ev.ltI x0.Type_ 133
    rotate_left
    · rfl
    cases Ev.ltI 137 x0.Type_
    rotate_left
    · rfl
    cases (x1 != 255)
    rotate_left
    · rfl
    cases (x0.Code != 0)
    rotate_left
    · rfl
    cases (x0.Type_ != 135) <;> cases (x0.Type_ == 134) <;> cases (x0.Type_ == 137) <;> cases z <;> cases a <;> cases b <;> cases c <;> rfl
  have ht : ∃ n, F_r21_Neighbour x0 x1 = some n := by
    unfold F_r21_Neighbour N_r21_Neighbour
    simp only [s2, d2, d4, hn, Ev.bnd_some]
    show Ev.Tot _
    repeat' (first | with_reducible exact Ev.Tot.some _ | with_reducible refine Ev.Tot.cond ?_ ?_ | with_reducible refine Ev.Tot.bnd ?_ (fun _ => ?_))
  obtain ⟨n, ht⟩ := ht
  unfold F_law21_IcmpNeighbours N_law21_IcmpNeighbours
  have ha : F_law21_alive = some true := rfl
  change Ev.bnd (F_icmp_Neighbour x0 x1) (fun v0 => Ev.bnd (F_r21_Neighbour x0 x1) fun v1 => bif v0 == v1 then Ev.bnd F_law21_alive fun v2 => some v2 else some false) = _
  rw [hs, ht, ha]
  simp only [Ev.bnd_some, beq_self_eq_true, cond_true]

end Go.Proofs.Yteljeekapcenlaa
