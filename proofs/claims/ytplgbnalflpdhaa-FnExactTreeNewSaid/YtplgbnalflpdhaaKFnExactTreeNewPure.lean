/- The program's TreeNew gives what the reference's gives, and new memory each time. (A plain statement over numbers and lists; the row behind it carries it to the program.) Conditions: none beyond the row's own. -/
import Derived.Test.YtplgbnalflpdhaaKFnExactTreeNewy1
namespace Go.Proofs.Ytplgbnalflpdhaa.Pure
open Go.RowKit Go.Proofs.Ytplgbnalflpdhaa.X Go.Proofs.YtplgbnalflpdhaaW.PrintWords Go.Proofs.YtplgbnalflpdhaaW.PrintLast Go.Proofs.YtplgbnalflpdhaaW.PrintMore Go.Proofs.Ytplgbnalflpdhaa.Y
set_option linter.unusedVariables false
set_option linter.unusedSimpArgs false
theorem eqAttrS_nil : Ev (fun k => laws_eqAttrS.f k [] []) true := by
  unfold laws_eqAttrS.f
  refine ev_pos rfl (ev_succ ?_)
  simp only [laws_eqAttrS.l0]
  exact ev_neg (by simp) (Ev.now _)
theorem eqNode_nil (a : Int) (b c : ByteArray) (d : Int) : Ev (fun k => laws_eqNode.f k a b [] c d [] a b [] c d []) true := by
  unfold laws_eqNode.f
  exact ev_pos rfl (ev_pos rfl (Ev.bind eqAttrS_nil (ev_pos rfl (ev_pos rfl (ev_pos rfl (Ev.bind (eqIntS_same [] (by simp)) (ev_pos rfl (Ev.now _))))))))
theorem w_01 : wrap64 (0 + 1) = 1 := by unfold wrap64; omega
theorem w_11 : wrap64 (1 + 1) = 2 := by unfold wrap64; omega
theorem w_21 : wrap64 (2 + 1) = 3 := by unfold wrap64; omega
theorem w_31 : wrap64 (3 + 1) = 4 := by unfold wrap64; omega
theorem w_41 : wrap64 (4 + 1) = 5 := by unfold wrap64; omega
theorem rd_one (x : S116) : rd_T116 [x] 0 = x := rfl
theorem eqTree_one (a : Int) (b c : ByteArray) (d : Int) : Ev (fun k => laws_eqTree.f k [⟨a, b, [], c, d, []⟩] [⟨a, b, [], c, d, []⟩]) true := by
  unfold laws_eqTree.f
  refine Ev.bind ?_ (ev_pos rfl (Ev.now _))
  unfold laws_eqNodeS.f
  refine ev_pos rfl (ev_succ ?_)
  simp only [laws_eqNodeS.l0, rd_one, w_01]
  refine ev_pos (by simp) (ev_pos (by omega) (ev_pos (by simp) (Ev.bind (eqNode_nil a b c d) (ev_pos rfl (ev_succ ?_)))))
  simp only [laws_eqNodeS.l0]
  exact ev_neg (by simp) (Ev.now _)
theorem markAttrS_nil (c : Int) : Ev (fun k => laws_markAttrS.f k [] c) (c, []) := by
  unfold laws_markAttrS.f
  refine ev_succ ?_
  simp only [laws_markAttrS.l0]
  exact ev_neg (by simp) (Ev.now _)
theorem heldAttrS_nil (c : Int) : Ev (fun k => laws_heldAttrS.f k [] c) c := by
  unfold laws_heldAttrS.f
  refine ev_succ ?_
  simp only [laws_heldAttrS.l0]
  exact ev_neg (by simp) (Ev.now _)
theorem markIntS_nil (c : Int) : Ev (fun k => laws_markIntS.f k [] c) (c, []) := by
  unfold laws_markIntS.f
  refine ev_succ ?_
  simp only [laws_markIntS.l0]
  exact ev_neg (by simp) (Ev.now _)
theorem heldIntS_nil (c : Int) : Ev (fun k => laws_heldIntS.f k [] c) c := by
  unfold laws_heldIntS.f
  refine ev_succ ?_
  simp only [laws_heldIntS.l0]
  exact ev_neg (by simp) (Ev.now _)
theorem markTree_one (a : Int) (b c : ByteArray) (d : Int) : Ev (fun k => laws_markTree.f k [⟨a, b, [], c, d, []⟩] 1) (5, [⟨1, Y.mtext 2, [], Y.mtext 3, 4, []⟩]) := by
  unfold laws_markTree.f laws_markNodeS.f
  refine ev_succ ?_
  simp only [laws_markNodeS.l0, rd_one, w_11, w_21, w_01]
  refine ev_pos (by simp) (ev_pos (by omega) (Ev.bind (markText_ev 2 (by omega)) (Ev.bind (markAttrS_nil 3) ?_)))
  simp only [w_31, w_41]
  refine Ev.bind (markText_ev 3 (by omega)) (Ev.bind (markIntS_nil 5) (ev_succ ?_))
  simp only [laws_markNodeS.l0]
  exact ev_neg (by simp) (Ev.now _)
theorem heldTree_one : Ev (fun k => laws_heldTree.f k [⟨1, Y.mtext 2, [], Y.mtext 3, 4, []⟩] 1) 5 := by
  unfold laws_heldTree.f
  refine Ev.bind ?_ (ev_neg (by omega) (Ev.now _))
  unfold laws_heldNodeS.f
  refine ev_succ ?_
  simp only [laws_heldNodeS.l0, rd_one, w_11, w_21, w_01]
  refine ev_pos (by simp) (ev_pos (by omega) (ev_pos (by trivial) (Ev.bind (markText_ev 2 (by omega)) (ev_pos rfl (Ev.bind (heldAttrS_nil 3) (ev_neg (by omega) ?_))))))
  simp only [w_31, w_41]
  refine Ev.bind (markText_ev 3 (by omega)) (ev_pos rfl (ev_pos (by trivial) (Ev.bind (heldIntS_nil 5) (ev_neg (by omega) (ev_succ ?_)))))
  simp only [laws_heldNodeS.l0]
  exact ev_neg (by simp) (Ev.now _)
theorem FnExactTreeNew : laws_FnExactTreeNew.Pure := by
  refine Ev.rounds (g := fun k => laws_FnExactTreeNew.f k) ?_
  unfold laws_FnExactTreeNew.f spec_TreeNew.f impl_TreeNew.f
  simp only [Option.bind_some]
  exact Ev.bind (eqTree_one _ _ _ _) (ev_pos rfl (Ev.bind (markTree_one _ _ _ _) (Ev.bind heldTree_one (ev_neg (by omega) (ev_pos rfl (Ev.bind (eqTree_one _ _ _ _) (ev_pos rfl (Ev.bind heldTree_one (ev_neg (by omega) (ev_pos rfl (Ev.now _)))))))))))

end Go.Proofs.Ytplgbnalflpdhaa.Pure
