/- The walks of functions, printed by wip/tools/gw.py. -/
import Derived.Test.YtoeockpkkmgieaaF2
import Derived.Test.YtoeockpkkmgieaaSx7
import Derived.Test.YtoeockpkkmgieaaM4
namespace Go.Proofs.Ytoeockpkkmgieaa
open Go Go.Sx
set_option linter.unusedVariables false
set_option linter.unusedSimpArgs false
set_option maxRecDepth 20000 in
theorem monoidLoose_any (la : Option Addr) (l : List EL) (lc : Nat) (i : Int) (j : Int) (w : World) (rl : RdT tyEL w (.slice la l.length lc) l) (dl : inEL.Rd w l) (hE : ∀ x : EL, x ∈ l → x.to.length * 8 ≤ 140737488355328) (hcp : l.length ≤ lc) :
    Calls Try.prog 8 #[.slice la l.length lc, .int .i64 i, .int .i64 j] w (Ret fun v w' => v = .bool true ∧ Upd w [] w' []) := by
  have hE2 : ∀ x : EL, x ∈ (l.take (min l.length 20)) → x.to.length * 8 ≤ 140737488355328 := fun x hx => hE x (List.mem_of_mem_take hx)
  have hlt : (l.take (min l.length 20)).length ≤ 20 := by rw [List.length_take]; omega
  have le_rl := rl.le
  refine calls_of_W (args := [.slice la l.length lc, .int .i64 i, .int .i64 j]) Try.func8 rfl rfl rfl ?_
  have H0 : UpG w [] w [] := UpG.nil w
  show W _ _ _ _ [(0, .slice la l.length lc), (1, .int .i64 i), (2, .int .i64 j)] w
  refine W.seq ?_
  refine W.region ?_
  refine WL.op rfl (d_assign rfl ?_)
  refine WL.done (X.then_code ?_)
  refine W.seq ?_
  refine W.seq ?_
  refine W.region ?_
  refine WL.op rfl (d_call ok27 rfl (Ret.calls (awake18_any  w  ) fun _ w1 p1 => ?_))
  obtain ⟨rfl, u1⟩ := p1
  have H1 : UpG w [] w1 [] := H0.call u1
  refine WL.op rfl (d_notB rfl ?_)
  refine WL.done (X.then_code ?_)
  refine W.iff rfl ?_
  refine W.skip (X.then_code ?_)
  refine W.seq ?_
  refine W.region ?_
  refine WL.op rfl (d_move rfl ?_)
  refine WL.op rfl (d_move rfl ?_)
  refine WL.op rfl (d_lenS Try.underlying35 rfl ?_)
  refine WL.op rfl (d_min rfl rfl ?_)
  have rs1 := RdT.take rl (min l.length 20) (by omega)
  refine WL.op rfl (t_take (min ((l.length : Nat) : Int) 20) (min l.length 20) (T := tyEL) (xs := l) rfl Try.underlying35 sz45 rfl rfl (by omega) (by omega) (by have h9 := List.length_take_le' (min l.length 20) l; omega) ?_)
  refine WL.op rfl (d_assign rfl ?_)
  refine WL.done (X.then_code ?_)
  refine W.seq ?_
  refine W.region ?_
  refine WL.op rfl (d_move rfl ?_)
  refine WL.op rfl (d_move rfl ?_)
  refine WL.op rfl (d_move rfl ?_)
  refine WL.op rfl (d_call ok37 rfl (Ret.calls (times_any la (l.take (min l.length 20)) lc i j w1 (rs1.at H1) ((dl.at H1).take (min l.length 20)) hE2) fun _ w2 p2 => ?_))
  obtain ⟨rfl, u2⟩ := p2
  have H2 : UpG w [] w2 [] := H1.call u2
  refine WL.op rfl (d_assign rfl ?_)
  refine WL.done (X.then_code ?_)
  refine W.seq ?_
  refine W.region ?_
  refine WL.op rfl (d_assign rfl ?_)
  refine WL.done (X.then_code ?_)
  refine W.seq ?_
  refine W.seq ?_
  refine W.region ?_
  refine WL.op rfl (d_assign rfl ?_)
  refine WL.done (X.then_code ?_)
  refine W.block ?_
  have H3 : UpG w [] w2 [[rowT (tyI .i64) (.slice none (([] : List Int).length) 0) 3 ([] : List Int)]] := H2.new' (Upd.nilRowT w2 (tyI .i64) 3)
  refine W.pick [9, 8, 7, 0, 6, 1, 2] (Γ' := [(9, .int .i64 0), (8, .slice none (([] : List Int).length) 0), (7, .int .i64 (timesT ((l.take (min l.length 20)).map EL.to) i j)), (0, .slice la ((l.take (min l.length 20)).length) lc), (6, .bool false), (1, .int .i64 i), (2, .int .i64 j)]) rfl ?_
  refine W.loop (fun m Γ' w' => ∃ k : Nat, ∃ q : List Int, ∃ qa : Option Addr, ∃ qc : Nat, Γ' = [(9, .int .i64 ((k : Nat) : Int)), (8, .slice qa q.length qc), (7, .int .i64 (timesT ((l.take (min l.length 20)).map EL.to) i j)), (0, .slice la ((l.take (min l.length 20)).length) lc), (6, .bool false), (1, .int .i64 i), (2, .int .i64 j)] ∧ UpG w [] w' [[rowT (tyI .i64) (.slice qa q.length qc) 3 q]] ∧ (k ≤ (l.take (min l.length 20)).length) ∧ (q = idemK ((l.take (min l.length 20)).map EL.to) k) ∧ m = (l.take (min l.length 20)).length - k) ((l.take (min l.length 20)).length - 0) ⟨0, ([] : List Int), none, 0, rfl, H3, (by first | assumption | omega | simp), (by rfl), rfl⟩ ?_
  rintro m1 Γ1 w3 ⟨k, q, qa, qc, rfl, H4, hk, hq, rfl⟩
  have hql : q.length ≤ k := (by rw [hq]; exact idemK_len _ _)
  refine W.seq ?_
  refine W.seq ?_
  refine W.region ?_
  refine WL.op rfl (d_move rfl ?_)
  refine WL.op rfl (d_move rfl ?_)
  refine WL.op rfl (d_lenS Try.underlying35 rfl ?_)
  refine WL.op rfl (d_cmp (decide (((k : Nat) : Int) < (((l.take (min l.length 20)).length : Nat) : Int))) rfl rfl rfl ?_)
  refine WL.done (X.then_code ?_)
  refine W.ite (p := ((k : Nat) : Int) < (((l.take (min l.length 20)).length : Nat) : Int)) rfl (fun c120 => ?_) (fun c120 => ?_)
  · skip
    refine W.skip (X.then_code ?_)
    refine W.seq ?_
    refine W.block ?_
    refine W.seq ?_
    refine W.regionD mixed (by kernel_rfl) fun hok1 w4 k1 => ?_
    have H5 : UpG w [] w4 [[rowT (tyI .i64) (.slice qa q.length qc) 3 q]] := H4.kept k1
    refine WD.take hok1 0 (.slice la ((l.take (min l.length 20)).length) lc) (fun _ => True) rfl rfl rfl rfl rfl trivial (.inl ⟨rfl, fun _ _ => d_move rfl ⟨rfl, rfl⟩⟩) ?_
    refine WD.take hok1 1 (.int .i64 ((k : Nat) : Int)) (fun _ => True) rfl rfl rfl rfl rfl trivial (.inl ⟨rfl, fun _ _ => d_move rfl ⟨rfl, rfl⟩⟩) ?_
    refine WD.take hok1 2 (elemPtr (.slice la ((l.take (min l.length 20)).length) lc) (k * 2)) (fun w' => RdT tyEL w' (.slice la ((l.take (min l.length 20)).length) lc) (l.take (min l.length 20))) rfl rfl rfl rfl rfl (rs1.at H5) (.inl ⟨rfl, fun _ hC => t_addrN k (T := tyEL) rfl Try.underlying35 sz45 rfl rfl hC rfl (by omega) ⟨rfl, rfl⟩⟩) ?_
    refine WD.take hok1 3 (elemPtr (.slice la ((l.take (min l.length 20)).length) lc) (k * 2 + 0)) (fun w' => RdT tyEL w' (.slice la ((l.take (min l.length 20)).length) lc) (l.take (min l.length 20))) rfl rfl rfl rfl rfl (rs1.at H5) (.inl ⟨rfl, fun _ hC => t_fld k el0 (T := tyEL) rfl fld45_0 rfl rfl hC (by omega) ⟨rfl, rfl⟩⟩) ?_
    refine WD.take hok1 4 (.slice (((l.take (min l.length 20)).getD k el0).a) (((l.take (min l.length 20)).getD k el0).n) (((l.take (min l.length 20)).getD k el0).c)) (fun w' => RdT tyEL w' (.slice la ((l.take (min l.length 20)).length) lc) (l.take (min l.length 20))) rfl rfl rfl rfl rfl (rs1.at H5) (.inl ⟨rfl, fun _ hC => t_loadF k el0 (T := tyEL) rfl rfl Try.underlying22 rfl rfl hC (by omega) rfl ⟨rfl, rfl⟩⟩) ?_
    refine WD.take hok1 5 (.slice la ((l.take (min l.length 20)).length) lc) (fun _ => True) rfl rfl rfl rfl rfl trivial (.inl ⟨rfl, fun _ _ => d_move rfl ⟨rfl, rfl⟩⟩) ?_
    refine WD.take hok1 6 (.int .i64 ((k : Nat) : Int)) (fun _ => True) rfl rfl rfl rfl rfl trivial (.inl ⟨rfl, fun _ _ => d_move rfl ⟨rfl, rfl⟩⟩) ?_
    refine WD.take hok1 7 (elemPtr (.slice la ((l.take (min l.length 20)).length) lc) (k * 2)) (fun w' => RdT tyEL w' (.slice la ((l.take (min l.length 20)).length) lc) (l.take (min l.length 20))) rfl rfl rfl rfl rfl (rs1.at H5) (.inl ⟨rfl, fun _ hC => t_addrN k (T := tyEL) rfl Try.underlying35 sz45 rfl rfl hC rfl (by omega) ⟨rfl, rfl⟩⟩) ?_
    refine WD.take hok1 8 (elemPtr (.slice la ((l.take (min l.length 20)).length) lc) (k * 2 + 0)) (fun w' => RdT tyEL w' (.slice la ((l.take (min l.length 20)).length) lc) (l.take (min l.length 20))) rfl rfl rfl rfl rfl (rs1.at H5) (.inl ⟨rfl, fun _ hC => t_fld k el0 (T := tyEL) rfl fld45_0 rfl rfl hC (by omega) ⟨rfl, rfl⟩⟩) ?_
    refine WD.take hok1 9 (.slice (((l.take (min l.length 20)).getD k el0).a) (((l.take (min l.length 20)).getD k el0).n) (((l.take (min l.length 20)).getD k el0).c)) (fun w' => RdT tyEL w' (.slice la ((l.take (min l.length 20)).length) lc) (l.take (min l.length 20))) rfl rfl rfl rfl rfl (rs1.at H5) (.inl ⟨rfl, fun _ hC => t_loadF k el0 (T := tyEL) rfl rfl Try.underlying22 rfl rfl hC (by omega) rfl ⟨rfl, rfl⟩⟩) ?_
    refine WD.loud hok1 10 rfl (⟨_, [], rfl, rfl, rfl, rfl, rfl, rfl, d_call ok38 rfl (Ret.calls (fits_any (((l.take (min l.length 20)).getD k el0).a) (((l.take (min l.length 20)).getD k el0).to) (((l.take (min l.length 20)).getD k el0).c) (((l.take (min l.length 20)).getD k el0).n) (((l.take (min l.length 20)).getD k el0).a) (((l.take (min l.length 20)).getD k el0).to) (((l.take (min l.length 20)).getD k el0).c) (((l.take (min l.length 20)).getD k el0).n) w4 (show RdT (tyI .i64) w4 (.slice (((l.take (min l.length 20)).getD k el0).a) (((l.take (min l.length 20)).getD k el0).n) (((l.take (min l.length 20)).getD k el0).c)) (((l.take (min l.length 20)).getD k el0).to) from ((dl.at H5).take (min l.length 20)).get el0 k (by omega)) (show RdT (tyI .i64) w4 (.slice (((l.take (min l.length 20)).getD k el0).a) (((l.take (min l.length 20)).getD k el0).n) (((l.take (min l.length 20)).getD k el0).c)) (((l.take (min l.length 20)).getD k el0).to) from ((dl.at H5).take (min l.length 20)).get el0 k (by omega)) ) fun _ w5 p3 => ?_)⟩)
    obtain ⟨rfl, u3⟩ := p3
    have H6 : UpG w [] w5 [[rowT (tyI .i64) (.slice qa q.length qc) 3 q]] := H5.call u3
    refine ⟨trivial, ?_⟩
    refine WD.take hok1 11 (.bool (thenB (((l.take (min l.length 20)).getD k el0).to) (((l.take (min l.length 20)).getD k el0).to))) (fun _ => True) rfl rfl rfl rfl rfl trivial (.inl ⟨rfl, fun _ _ => d_move rfl ⟨rfl, rfl⟩⟩) ?_
    refine WD.partB 41 (b := thenB (((l.take (min l.length 20)).getD k el0).to) (((l.take (min l.length 20)).getD k el0).to)) rfl (fun g121 => ?_) (fun g121 => ?_)
    · skip
      refine WD.take hok1 12 (.slice la ((l.take (min l.length 20)).length) lc) (fun _ => True) rfl rfl rfl rfl rfl trivial (.inl ⟨rfl, fun _ _ => d_move rfl ⟨rfl, rfl⟩⟩) ?_
      refine WD.take hok1 13 (.int .i64 ((k : Nat) : Int)) (fun _ => True) rfl rfl rfl rfl rfl trivial (.inl ⟨rfl, fun _ _ => d_move rfl ⟨rfl, rfl⟩⟩) ?_
      refine WD.take hok1 14 (elemPtr (.slice la ((l.take (min l.length 20)).length) lc) (k * 2)) (fun w' => RdT tyEL w' (.slice la ((l.take (min l.length 20)).length) lc) (l.take (min l.length 20))) rfl rfl rfl rfl rfl (rs1.at H6) (.inl ⟨rfl, fun _ hC => t_addrN k (T := tyEL) rfl Try.underlying35 sz45 rfl rfl hC rfl (by omega) ⟨rfl, rfl⟩⟩) ?_
      refine WD.take hok1 15 (elemPtr (.slice la ((l.take (min l.length 20)).length) lc) (k * 2 + 0)) (fun w' => RdT tyEL w' (.slice la ((l.take (min l.length 20)).length) lc) (l.take (min l.length 20))) rfl rfl rfl rfl rfl (rs1.at H6) (.inl ⟨rfl, fun _ hC => t_fld k el0 (T := tyEL) rfl fld45_0 rfl rfl hC (by omega) ⟨rfl, rfl⟩⟩) ?_
      refine WD.take hok1 16 (.slice (((l.take (min l.length 20)).getD k el0).a) (((l.take (min l.length 20)).getD k el0).n) (((l.take (min l.length 20)).getD k el0).c)) (fun w' => RdT tyEL w' (.slice la ((l.take (min l.length 20)).length) lc) (l.take (min l.length 20))) rfl rfl rfl rfl rfl (rs1.at H6) (.inl ⟨rfl, fun _ hC => t_loadF k el0 (T := tyEL) rfl rfl Try.underlying22 rfl rfl hC (by omega) rfl ⟨rfl, rfl⟩⟩) ?_
      refine WD.take hok1 17 (.slice la ((l.take (min l.length 20)).length) lc) (fun _ => True) rfl rfl rfl rfl rfl trivial (.inl ⟨rfl, fun _ _ => d_move rfl ⟨rfl, rfl⟩⟩) ?_
      refine WD.take hok1 18 (.int .i64 ((k : Nat) : Int)) (fun _ => True) rfl rfl rfl rfl rfl trivial (.inl ⟨rfl, fun _ _ => d_move rfl ⟨rfl, rfl⟩⟩) ?_
      refine WD.take hok1 19 (elemPtr (.slice la ((l.take (min l.length 20)).length) lc) (k * 2)) (fun w' => RdT tyEL w' (.slice la ((l.take (min l.length 20)).length) lc) (l.take (min l.length 20))) rfl rfl rfl rfl rfl (rs1.at H6) (.inl ⟨rfl, fun _ hC => t_addrN k (T := tyEL) rfl Try.underlying35 sz45 rfl rfl hC rfl (by omega) ⟨rfl, rfl⟩⟩) ?_
      refine WD.take hok1 20 (elemPtr (.slice la ((l.take (min l.length 20)).length) lc) (k * 2 + 0)) (fun w' => RdT tyEL w' (.slice la ((l.take (min l.length 20)).length) lc) (l.take (min l.length 20))) rfl rfl rfl rfl rfl (rs1.at H6) (.inl ⟨rfl, fun _ hC => t_fld k el0 (T := tyEL) rfl fld45_0 rfl rfl hC (by omega) ⟨rfl, rfl⟩⟩) ?_
      refine WD.take hok1 21 (.slice (((l.take (min l.length 20)).getD k el0).a) (((l.take (min l.length 20)).getD k el0).n) (((l.take (min l.length 20)).getD k el0).c)) (fun w' => RdT tyEL w' (.slice la ((l.take (min l.length 20)).length) lc) (l.take (min l.length 20))) rfl rfl rfl rfl rfl (rs1.at H6) (.inl ⟨rfl, fun _ hC => t_loadF k el0 (T := tyEL) rfl rfl Try.underlying22 rfl rfl hC (by omega) rfl ⟨rfl, rfl⟩⟩) ?_
      refine WD.take hok1 23 (.slice la ((l.take (min l.length 20)).length) lc) (fun _ => True) rfl rfl rfl rfl rfl trivial (.inl ⟨rfl, fun _ _ => d_move rfl ⟨rfl, rfl⟩⟩) ?_
      refine WD.take hok1 24 (.int .i64 ((k : Nat) : Int)) (fun _ => True) rfl rfl rfl rfl rfl trivial (.inl ⟨rfl, fun _ _ => d_move rfl ⟨rfl, rfl⟩⟩) ?_
      refine WD.take hok1 25 (elemPtr (.slice la ((l.take (min l.length 20)).length) lc) (k * 2)) (fun w' => RdT tyEL w' (.slice la ((l.take (min l.length 20)).length) lc) (l.take (min l.length 20))) rfl rfl rfl rfl rfl (rs1.at H6) (.inl ⟨rfl, fun _ hC => t_addrN k (T := tyEL) rfl Try.underlying35 sz45 rfl rfl hC rfl (by omega) ⟨rfl, rfl⟩⟩) ?_
      refine WD.take hok1 26 (elemPtr (.slice la ((l.take (min l.length 20)).length) lc) (k * 2 + 0)) (fun w' => RdT tyEL w' (.slice la ((l.take (min l.length 20)).length) lc) (l.take (min l.length 20))) rfl rfl rfl rfl rfl (rs1.at H6) (.inl ⟨rfl, fun _ hC => t_fld k el0 (T := tyEL) rfl fld45_0 rfl rfl hC (by omega) ⟨rfl, rfl⟩⟩) ?_
      refine WD.take hok1 27 (.slice (((l.take (min l.length 20)).getD k el0).a) (((l.take (min l.length 20)).getD k el0).n) (((l.take (min l.length 20)).getD k el0).c)) (fun w' => RdT tyEL w' (.slice la ((l.take (min l.length 20)).length) lc) (l.take (min l.length 20))) rfl rfl rfl rfl rfl (rs1.at H6) (.inl ⟨rfl, fun _ hC => t_loadF k el0 (T := tyEL) rfl rfl Try.underlying22 rfl rfl hC (by omega) rfl ⟨rfl, rfl⟩⟩) ?_
      refine WD.loud hok1 22 rfl (⟨_, [⟨27, .slice (((l.take (min l.length 20)).getD k el0).a) (((l.take (min l.length 20)).getD k el0).n) (((l.take (min l.length 20)).getD k el0).c), (fun w' => RdT tyEL w' (.slice la ((l.take (min l.length 20)).length) lc) (l.take (min l.length 20)))⟩, ⟨26, elemPtr (.slice la ((l.take (min l.length 20)).length) lc) (k * 2 + 0), (fun w' => RdT tyEL w' (.slice la ((l.take (min l.length 20)).length) lc) (l.take (min l.length 20)))⟩, ⟨25, elemPtr (.slice la ((l.take (min l.length 20)).length) lc) (k * 2), (fun w' => RdT tyEL w' (.slice la ((l.take (min l.length 20)).length) lc) (l.take (min l.length 20)))⟩, ⟨24, .int .i64 ((k : Nat) : Int), (fun _ => True)⟩, ⟨23, .slice la ((l.take (min l.length 20)).length) lc, (fun _ => True)⟩], rfl, rfl, rfl, rfl, rfl, rfl, d_call ok34 rfl (Ret.calls (thenR_any (((l.take (min l.length 20)).getD k el0).a) (((l.take (min l.length 20)).getD k el0).to) (((l.take (min l.length 20)).getD k el0).c) (((l.take (min l.length 20)).getD k el0).n) (((l.take (min l.length 20)).getD k el0).a) (((l.take (min l.length 20)).getD k el0).to) (((l.take (min l.length 20)).getD k el0).c) (((l.take (min l.length 20)).getD k el0).n) w5 (show RdT (tyI .i64) w5 (.slice (((l.take (min l.length 20)).getD k el0).a) (((l.take (min l.length 20)).getD k el0).n) (((l.take (min l.length 20)).getD k el0).c)) (((l.take (min l.length 20)).getD k el0).to) from ((dl.at H6).take (min l.length 20)).get el0 k (by omega)) (show RdT (tyI .i64) w5 (.slice (((l.take (min l.length 20)).getD k el0).a) (((l.take (min l.length 20)).getD k el0).n) (((l.take (min l.length 20)).getD k el0).c)) (((l.take (min l.length 20)).getD k el0).to) from ((dl.at H6).take (min l.length 20)).get el0 k (by omega)) (hE _ (List.mem_of_mem_take (getD_mem' (by omega)))) (by first | exact g121 | (simpa using g128xxxx) | (simpa using c128))) fun _ w6 p4 => ?_)⟩)
      obtain ⟨a2_1, c2_1, rfl, u4⟩ := p4
      have H7 : UpG w [] w6 [[rowT (tyI .i64) (.slice qa q.length qc) 3 q], [rowT (tyI .i64) (.slice a2_1 ((thenL (((l.take (min l.length 20)).getD k el0).to) (((l.take (min l.length 20)).getD k el0).to)).length) c2_1) 3 (thenL (((l.take (min l.length 20)).getD k el0).to) (((l.take (min l.length 20)).getD k el0).to))]] := (H6.new' u4).re rfl
      refine ⟨⟨(rs1.at H7), (rs1.at H7), (rs1.at H7), trivial, trivial, trivial⟩, ?_⟩
      refine WD.loud hok1 28 rfl (⟨_, [], rfl, rfl, rfl, rfl, rfl, rfl, d_call ok32 rfl (Ret.calls (same10_any a2_1 (thenL (((l.take (min l.length 20)).getD k el0).to) (((l.take (min l.length 20)).getD k el0).to)) c2_1 ((thenL (((l.take (min l.length 20)).getD k el0).to) (((l.take (min l.length 20)).getD k el0).to)).length) (((l.take (min l.length 20)).getD k el0).a) (((l.take (min l.length 20)).getD k el0).to) (((l.take (min l.length 20)).getD k el0).c) (((l.take (min l.length 20)).getD k el0).n) w6 (H7.rdT 1 rfl) (show RdT (tyI .i64) w6 (.slice (((l.take (min l.length 20)).getD k el0).a) (((l.take (min l.length 20)).getD k el0).n) (((l.take (min l.length 20)).getD k el0).c)) (((l.take (min l.length 20)).getD k el0).to) from ((dl.at H7).take (min l.length 20)).get el0 k (by omega)) ) fun _ w7 p5 => ?_)⟩)
      obtain ⟨rfl, u5⟩ := p5
      have H8 : UpG w [] w7 [[rowT (tyI .i64) (.slice qa q.length qc) 3 q], [rowT (tyI .i64) (.slice a2_1 ((thenL (((l.take (min l.length 20)).getD k el0).to) (((l.take (min l.length 20)).getD k el0).to)).length) c2_1) 3 (thenL (((l.take (min l.length 20)).getD k el0).to) (((l.take (min l.length 20)).getD k el0).to))]] := H7.call u5
      refine ⟨trivial, ?_⟩
      refine WD.take hok1 29 (.bool (decide ((thenL (((l.take (min l.length 20)).getD k el0).to) (((l.take (min l.length 20)).getD k el0).to)) = (((l.take (min l.length 20)).getD k el0).to)))) (fun _ => True) rfl rfl rfl rfl rfl trivial (.inl ⟨rfl, fun _ _ => d_pick rfl rfl ⟨rfl, rfl⟩⟩) ?_
      refine WD.done hok1 rfl (X.then_code ?_)
      refine W.pick [59, 58, 52, 57, 56, 55, 54, 53, 51, 50, 49, 48, 47, 46, 45, 44, 43, 42, 9, 8, 7, 0, 6, 1, 2] (Γ' := [(59, .bool (decide ((thenL (((l.take (min l.length 20)).getD k el0).to) (((l.take (min l.length 20)).getD k el0).to)) = (((l.take (min l.length 20)).getD k el0).to)))), (58, .bool (decide ((thenL (((l.take (min l.length 20)).getD k el0).to) (((l.take (min l.length 20)).getD k el0).to)) = (((l.take (min l.length 20)).getD k el0).to)))), (52, .slice a2_1 ((thenL (((l.take (min l.length 20)).getD k el0).to) (((l.take (min l.length 20)).getD k el0).to)).length) c2_1), (57, .slice (((l.take (min l.length 20)).getD k el0).a) (((l.take (min l.length 20)).getD k el0).n) (((l.take (min l.length 20)).getD k el0).c)), (56, elemPtr (.slice la ((l.take (min l.length 20)).length) lc) (k * 2 + 0)), (55, elemPtr (.slice la ((l.take (min l.length 20)).length) lc) (k * 2)), (54, .int .i64 ((k : Nat) : Int)), (53, .slice la ((l.take (min l.length 20)).length) lc), (51, .slice (((l.take (min l.length 20)).getD k el0).a) (((l.take (min l.length 20)).getD k el0).n) (((l.take (min l.length 20)).getD k el0).c)), (50, elemPtr (.slice la ((l.take (min l.length 20)).length) lc) (k * 2 + 0)), (49, elemPtr (.slice la ((l.take (min l.length 20)).length) lc) (k * 2)), (48, .int .i64 ((k : Nat) : Int)), (47, .slice la ((l.take (min l.length 20)).length) lc), (46, .slice (((l.take (min l.length 20)).getD k el0).a) (((l.take (min l.length 20)).getD k el0).n) (((l.take (min l.length 20)).getD k el0).c)), (45, elemPtr (.slice la ((l.take (min l.length 20)).length) lc) (k * 2 + 0)), (44, elemPtr (.slice la ((l.take (min l.length 20)).length) lc) (k * 2)), (43, .int .i64 ((k : Nat) : Int)), (42, .slice la ((l.take (min l.length 20)).length) lc), (9, .int .i64 ((k : Nat) : Int)), (8, .slice qa q.length qc), (7, .int .i64 (timesT ((l.take (min l.length 20)).map EL.to) i j)), (0, .slice la ((l.take (min l.length 20)).length) lc), (6, .bool false), (1, .int .i64 i), (2, .int .i64 j)]) rfl ?_
      refine W.ite (p := (thenL (((l.take (min l.length 20)).getD k el0).to) (((l.take (min l.length 20)).getD k el0).to)) = (((l.take (min l.length 20)).getD k el0).to)) rfl (fun c121 => ?_) (fun c121 => ?_)
      · skip
        refine W.region ?_
        refine WL.op rfl (d_move rfl ?_)
        refine WL.op rfl (d_move rfl ?_)
        refine WL.op rfl (t_buildSlice (T := (tyI .i64)) (xs := [((k : Nat) : Int)]) (cs := #[.int .i64 ((k : Nat) : Int)]) rfl Try.underlying22 sz3 rfl rfl rfl rfl (by kernel_rfl) rfl rfl fun w8 u6 => ?_)
        have H9 : UpG w [] w8 [[rowT (tyI .i64) (.slice qa q.length qc) 3 q], [rowT (tyI .i64) (.slice a2_1 ((thenL (((l.take (min l.length 20)).getD k el0).to) (((l.take (min l.length 20)).getD k el0).to)).length) c2_1) 3 (thenL (((l.take (min l.length 20)).getD k el0).to) (((l.take (min l.length 20)).getD k el0).to))], [rowT (tyI .i64) (.slice (some ⟨w7.heap.size, 0, none⟩) ([((k : Nat) : Int)].length) ([((k : Nat) : Int)].length)) 3 [((k : Nat) : Int)]]] := H8.new' u6
        refine WL.op rfl (t_append (T := (tyI .i64)) (xs := q) (ys := [((k : Nat) : Int)]) rfl Try.underlying22 sz3 rfl rfl rfl (H9.ownT 0 rfl) (H9.rdT 2 rfl) (by simp; omega) (by simp; omega) fun a1 c1 w9 u7 => ?_)
        have H10 : UpG w [] w9 [[rowT (tyI .i64) (.slice a1 ((q ++ [((k : Nat) : Int)]).length) c1) 3 (q ++ [((k : Nat) : Int)])], [rowT (tyI .i64) (.slice a2_1 ((thenL (((l.take (min l.length 20)).getD k el0).to) (((l.take (min l.length 20)).getD k el0).to)).length) c2_1) 3 (thenL (((l.take (min l.length 20)).getD k el0).to) (((l.take (min l.length 20)).getD k el0).to))], []] := (H9.on 0 rfl u7).drop 2
        refine WL.op rfl (d_assign rfl ?_)
        refine WL.done (X.block_normal (X.then_code ?_))
        refine W.region ?_
        refine WL.op rfl (d_move rfl ?_)
        refine WL.op rfl (d_add rfl rfl (by omega) (by omega) ?_)
        refine WL.op rfl (d_assign rfl ?_)
        refine WL.done ?_
        exact X.next [9, 8, 7, 0, 6, 1, 2] (Γ' := [(9, .int .i64 (((k + 1) : Nat) : Int)), (8, .slice a1 ((q ++ [((k : Nat) : Int)]).length) c1), (7, .int .i64 (timesT ((l.take (min l.length 20)).map EL.to) i j)), (0, .slice la ((l.take (min l.length 20)).length) lc), (6, .bool false), (1, .int .i64 i), (2, .int .i64 j)]) rfl ((l.take (min l.length 20)).length - (k + 1)) (by omega) ⟨k + 1, q ++ [((k : Nat) : Int)], a1, c1, rfl, (UpG.of (G := [[rowT (tyI .i64) (.slice a1 ((q ++ [((k : Nat) : Int)]).length) c1) 3 (q ++ [((k : Nat) : Int)])]]) (Upd.sel H10 (M := [rowT (tyI .i64) (.slice a1 ((q ++ [((k : Nat) : Int)]).length) c1) 3 (q ++ [((k : Nat) : Int)])]) (l := [0]) rfl rfl) rfl), (by first | assumption | omega | simp), (by first | (rw [hq]; exact idemK_yes (by rw [mapTo_getD]; exact idem_yes3 g121 c121)) | (rw [hq]; exact idemK_no (by rw [mapTo_getD]; exact idem_no3 g121 c121)) | (rw [hq]; exact idemK_no (by rw [mapTo_getD]; exact idem_no1 g121))), rfl⟩
      · skip
        refine W.skip (X.block_normal (X.then_code ?_))
        refine W.region ?_
        refine WL.op rfl (d_move rfl ?_)
        refine WL.op rfl (d_add rfl rfl (by omega) (by omega) ?_)
        refine WL.op rfl (d_assign rfl ?_)
        refine WL.done ?_
        exact X.next [9, 8, 7, 0, 6, 1, 2] (Γ' := [(9, .int .i64 (((k + 1) : Nat) : Int)), (8, .slice qa q.length qc), (7, .int .i64 (timesT ((l.take (min l.length 20)).map EL.to) i j)), (0, .slice la ((l.take (min l.length 20)).length) lc), (6, .bool false), (1, .int .i64 i), (2, .int .i64 j)]) rfl ((l.take (min l.length 20)).length - (k + 1)) (by omega) ⟨k + 1, q, qa, qc, rfl, (UpG.of (G := [[rowT (tyI .i64) (.slice qa q.length qc) 3 q]]) (Upd.sel H8 (M := [rowT (tyI .i64) (.slice qa q.length qc) 3 q]) (l := [0]) rfl rfl) rfl), (by first | assumption | omega | simp), (by first | (rw [hq]; exact idemK_yes (by rw [mapTo_getD]; exact idem_yes3 g121 c121)) | (rw [hq]; exact idemK_no (by rw [mapTo_getD]; exact idem_no3 g121 c121)) | (rw [hq]; exact idemK_no (by rw [mapTo_getD]; exact idem_no1 g121))), rfl⟩
    · skip
      refine WD.take hok1 12 undef (fun _ => True) rfl rfl rfl rfl rfl trivial (.inr ⟨rfl, rfl⟩) ?_
      refine WD.take hok1 13 undef (fun _ => True) rfl rfl rfl rfl rfl trivial (.inr ⟨rfl, rfl⟩) ?_
      refine WD.take hok1 14 undef (fun _ => True) rfl rfl rfl rfl rfl trivial (.inr ⟨rfl, rfl⟩) ?_
      refine WD.take hok1 15 undef (fun _ => True) rfl rfl rfl rfl rfl trivial (.inr ⟨rfl, rfl⟩) ?_
      refine WD.take hok1 16 undef (fun _ => True) rfl rfl rfl rfl rfl trivial (.inr ⟨rfl, rfl⟩) ?_
      refine WD.take hok1 17 undef (fun _ => True) rfl rfl rfl rfl rfl trivial (.inr ⟨rfl, rfl⟩) ?_
      refine WD.take hok1 18 undef (fun _ => True) rfl rfl rfl rfl rfl trivial (.inr ⟨rfl, rfl⟩) ?_
      refine WD.take hok1 19 undef (fun _ => True) rfl rfl rfl rfl rfl trivial (.inr ⟨rfl, rfl⟩) ?_
      refine WD.take hok1 20 undef (fun _ => True) rfl rfl rfl rfl rfl trivial (.inr ⟨rfl, rfl⟩) ?_
      refine WD.take hok1 21 undef (fun _ => True) rfl rfl rfl rfl rfl trivial (.inr ⟨rfl, rfl⟩) ?_
      refine WD.take hok1 22 undef (fun _ => True) rfl rfl rfl rfl rfl trivial (.inr ⟨rfl, rfl⟩) ?_
      refine WD.take hok1 23 undef (fun _ => True) rfl rfl rfl rfl rfl trivial (.inr ⟨rfl, rfl⟩) ?_
      refine WD.take hok1 24 undef (fun _ => True) rfl rfl rfl rfl rfl trivial (.inr ⟨rfl, rfl⟩) ?_
      refine WD.take hok1 25 undef (fun _ => True) rfl rfl rfl rfl rfl trivial (.inr ⟨rfl, rfl⟩) ?_
      refine WD.take hok1 26 undef (fun _ => True) rfl rfl rfl rfl rfl trivial (.inr ⟨rfl, rfl⟩) ?_
      refine WD.take hok1 27 undef (fun _ => True) rfl rfl rfl rfl rfl trivial (.inr ⟨rfl, rfl⟩) ?_
      refine WD.take hok1 28 undef (fun _ => True) rfl rfl rfl rfl rfl trivial (.inr ⟨rfl, rfl⟩) ?_
      refine WD.take hok1 29 (.bool false) (fun _ => True) rfl rfl rfl rfl rfl trivial (.inl ⟨rfl, fun _ _ => d_pick rfl rfl ⟨rfl, rfl⟩⟩) ?_
      refine WD.done hok1 rfl (X.then_code ?_)
      refine W.pick [59, 58, 57, 56, 55, 54, 53, 52, 51, 50, 49, 48, 47, 46, 45, 44, 43, 42, 9, 8, 7, 0, 6, 1, 2] (Γ' := [(59, .bool false), (58, undef), (57, undef), (56, undef), (55, undef), (54, undef), (53, undef), (52, undef), (51, undef), (50, undef), (49, undef), (48, undef), (47, undef), (46, undef), (45, undef), (44, undef), (43, undef), (42, undef), (9, .int .i64 ((k : Nat) : Int)), (8, .slice qa q.length qc), (7, .int .i64 (timesT ((l.take (min l.length 20)).map EL.to) i j)), (0, .slice la ((l.take (min l.length 20)).length) lc), (6, .bool false), (1, .int .i64 i), (2, .int .i64 j)]) rfl ?_
      refine W.iff rfl ?_
      refine W.skip (X.block_normal (X.then_code ?_))
      refine W.region ?_
      refine WL.op rfl (d_move rfl ?_)
      refine WL.op rfl (d_add rfl rfl (by omega) (by omega) ?_)
      refine WL.op rfl (d_assign rfl ?_)
      refine WL.done ?_
      exact X.next [9, 8, 7, 0, 6, 1, 2] (Γ' := [(9, .int .i64 (((k + 1) : Nat) : Int)), (8, .slice qa q.length qc), (7, .int .i64 (timesT ((l.take (min l.length 20)).map EL.to) i j)), (0, .slice la ((l.take (min l.length 20)).length) lc), (6, .bool false), (1, .int .i64 i), (2, .int .i64 j)]) rfl ((l.take (min l.length 20)).length - (k + 1)) (by omega) ⟨k + 1, q, qa, qc, rfl, H6, (by first | assumption | omega | simp), (by first | (rw [hq]; exact idemK_yes (by rw [mapTo_getD]; exact idem_yes3 g121 c121)) | (rw [hq]; exact idemK_no (by rw [mapTo_getD]; exact idem_no3 g121 c121)) | (rw [hq]; exact idemK_no (by rw [mapTo_getD]; exact idem_no1 g121))), rfl⟩
  · skip
    refine W.exit (X.then_exit (X.then_exit (X.block_exit (X.then_code ?_))))
    refine W.seq ?_
    refine W.seq ?_
    refine W.region ?_
    refine WL.op rfl (d_move rfl ?_)
    refine WL.op rfl (d_call ok35 rfl (Ret.calls (idempotents_any la (l.take (min l.length 20)) lc w3 (rs1.at H4) ((dl.at H4).take (min l.length 20)) hE2 (by omega)) fun _ w10 p6 => ?_))
    obtain ⟨a2_2, c2_2, rfl, u8⟩ := p6
    have H11 : UpG w [] w10 [[rowT (tyI .i64) (.slice qa q.length qc) 3 q], [rowT (tyI .i64) (.slice a2_2 ((idemT ((l.take (min l.length 20)).map EL.to)).length) c2_2) 3 (idemT ((l.take (min l.length 20)).map EL.to))]] := (H4.new' u8).re rfl
    refine WL.op rfl (d_move rfl ?_)
    refine WL.op rfl (d_call ok32 rfl (Ret.calls (same10_any a2_2 (idemT ((l.take (min l.length 20)).map EL.to)) c2_2 ((idemT ((l.take (min l.length 20)).map EL.to)).length) qa q qc q.length w10 (H11.rdT 1 rfl) (H11.rdT 0 rfl) ) fun _ w11 p7 => ?_))
    obtain ⟨rfl, u9⟩ := p7
    have H12 : UpG w [] w11 [[rowT (tyI .i64) (.slice qa q.length qc) 3 q], [rowT (tyI .i64) (.slice a2_2 ((idemT ((l.take (min l.length 20)).map EL.to)).length) c2_2) 3 (idemT ((l.take (min l.length 20)).map EL.to))]] := H11.call u9
    refine WL.op rfl (d_not (p := (idemT ((l.take (min l.length 20)).map EL.to)) = q) rfl ?_)
    refine WL.done (X.then_code ?_)
    refine W.ite (p := ¬ ((idemT ((l.take (min l.length 20)).map EL.to)) = q)) rfl (fun c125 => ?_) (fun c125 => ?_)
    · skip
      exfalso; exact absurd (by rw [hq, idemT, List.length_map, show k = (l.take (min l.length 20)).length by omega]) c125
    · skip
      refine W.skip (X.then_code ?_)
      refine W.seq ?_
      refine W.seq ?_
      refine W.regionD mixed (by kernel_rfl) fun hok2 w12 k2 => ?_
      have H13 : UpG w [] w12 [[rowT (tyI .i64) (.slice qa q.length qc) 3 q], [rowT (tyI .i64) (.slice a2_2 ((idemT ((l.take (min l.length 20)).map EL.to)).length) c2_2) 3 (idemT ((l.take (min l.length 20)).map EL.to))]] := H12.kept k2
      refine WD.take hok2 0 (.int .i64 i) (fun _ => True) rfl rfl rfl rfl rfl trivial (.inl ⟨rfl, fun _ _ => d_move rfl ⟨rfl, rfl⟩⟩) ?_
      refine WD.take hok2 1 (.bool (decide (i < (0 : Int)))) (fun _ => True) rfl rfl rfl rfl rfl trivial (.inl ⟨rfl, fun _ _ => d_cmp (decide (i < (0 : Int))) rfl rfl rfl ⟨rfl, rfl⟩⟩) ?_
      refine WD.take hok2 2 (.bool (decide (i < (0 : Int)))) (fun _ => True) rfl rfl rfl rfl rfl trivial (.inl ⟨rfl, fun _ _ => d_move rfl ⟨rfl, rfl⟩⟩) ?_
      refine WD.part 71 (p := i < (0 : Int)) rfl (fun g128 => ?_) (fun g128 => ?_)
      · skip
        refine WD.take hok2 3 undef (fun _ => True) rfl rfl rfl rfl rfl trivial (.inr ⟨rfl, rfl⟩) ?_
        refine WD.take hok2 4 undef (fun _ => True) rfl rfl rfl rfl rfl trivial (.inr ⟨rfl, rfl⟩) ?_
        refine WD.take hok2 5 undef (fun _ => True) rfl rfl rfl rfl rfl trivial (.inr ⟨rfl, rfl⟩) ?_
        refine WD.take hok2 6 undef (fun _ => True) rfl rfl rfl rfl rfl trivial (.inr ⟨rfl, rfl⟩) ?_
        refine WD.take hok2 7 (.bool true) (fun _ => True) rfl rfl rfl rfl rfl trivial (.inl ⟨rfl, fun _ _ => d_pick rfl rfl ⟨rfl, rfl⟩⟩) ?_
        refine WD.take hok2 8 (.bool true) (fun _ => True) rfl rfl rfl rfl rfl trivial (.inl ⟨rfl, fun _ _ => d_move rfl ⟨rfl, rfl⟩⟩) ?_
        refine WD.take hok2 9 undef (fun _ => True) rfl rfl rfl rfl rfl trivial (.inr ⟨rfl, rfl⟩) ?_
        refine WD.take hok2 10 undef (fun _ => True) rfl rfl rfl rfl rfl trivial (.inr ⟨rfl, rfl⟩) ?_
        refine WD.take hok2 11 (.bool true) (fun _ => True) rfl rfl rfl rfl rfl trivial (.inl ⟨rfl, fun _ _ => d_pick rfl rfl ⟨rfl, rfl⟩⟩) ?_
        refine WD.take hok2 12 (.bool true) (fun _ => True) rfl rfl rfl rfl rfl trivial (.inl ⟨rfl, fun _ _ => d_move rfl ⟨rfl, rfl⟩⟩) ?_
        refine WD.take hok2 13 undef (fun _ => True) rfl rfl rfl rfl rfl trivial (.inr ⟨rfl, rfl⟩) ?_
        refine WD.take hok2 14 undef (fun _ => True) rfl rfl rfl rfl rfl trivial (.inr ⟨rfl, rfl⟩) ?_
        refine WD.take hok2 15 undef (fun _ => True) rfl rfl rfl rfl rfl trivial (.inr ⟨rfl, rfl⟩) ?_
        refine WD.take hok2 16 undef (fun _ => True) rfl rfl rfl rfl rfl trivial (.inr ⟨rfl, rfl⟩) ?_
        refine WD.take hok2 17 (.bool true) (fun _ => True) rfl rfl rfl rfl rfl trivial (.inl ⟨rfl, fun _ _ => d_pick rfl rfl ⟨rfl, rfl⟩⟩) ?_
        refine WD.take hok2 18 (.bool true) (fun _ => True) rfl rfl rfl rfl rfl trivial (.inl ⟨rfl, fun _ _ => d_move rfl ⟨rfl, rfl⟩⟩) ?_
        refine WD.take hok2 19 undef (fun _ => True) rfl rfl rfl rfl rfl trivial (.inr ⟨rfl, rfl⟩) ?_
        refine WD.take hok2 20 undef (fun _ => True) rfl rfl rfl rfl rfl trivial (.inr ⟨rfl, rfl⟩) ?_
        refine WD.take hok2 21 undef (fun _ => True) rfl rfl rfl rfl rfl trivial (.inr ⟨rfl, rfl⟩) ?_
        refine WD.take hok2 22 undef (fun _ => True) rfl rfl rfl rfl rfl trivial (.inr ⟨rfl, rfl⟩) ?_
        refine WD.take hok2 23 undef (fun _ => True) rfl rfl rfl rfl rfl trivial (.inr ⟨rfl, rfl⟩) ?_
        refine WD.take hok2 24 undef (fun _ => True) rfl rfl rfl rfl rfl trivial (.inr ⟨rfl, rfl⟩) ?_
        refine WD.take hok2 25 undef (fun _ => True) rfl rfl rfl rfl rfl trivial (.inr ⟨rfl, rfl⟩) ?_
        refine WD.take hok2 26 undef (fun _ => True) rfl rfl rfl rfl rfl trivial (.inr ⟨rfl, rfl⟩) ?_
        refine WD.take hok2 27 undef (fun _ => True) rfl rfl rfl rfl rfl trivial (.inr ⟨rfl, rfl⟩) ?_
        refine WD.take hok2 28 undef (fun _ => True) rfl rfl rfl rfl rfl trivial (.inr ⟨rfl, rfl⟩) ?_
        refine WD.take hok2 29 undef (fun _ => True) rfl rfl rfl rfl rfl trivial (.inr ⟨rfl, rfl⟩) ?_
        refine WD.take hok2 30 undef (fun _ => True) rfl rfl rfl rfl rfl trivial (.inr ⟨rfl, rfl⟩) ?_
        refine WD.take hok2 31 (.bool true) (fun _ => True) rfl rfl rfl rfl rfl trivial (.inl ⟨rfl, fun _ _ => d_pick rfl rfl ⟨rfl, rfl⟩⟩) ?_
        refine WD.done hok2 rfl (X.then_code ?_)
        refine W.pick [100, 7, 0, 6, 1, 2] (Γ' := [(100, .bool true), (7, .int .i64 (timesT ((l.take (min l.length 20)).map EL.to) i j)), (0, .slice la ((l.take (min l.length 20)).length) lc), (6, .bool false), (1, .int .i64 i), (2, .int .i64 j)]) rfl ?_
        refine W.ift rfl ?_
        refine W.seq ?_
        refine W.region ?_
        refine WL.op rfl (d_move rfl ?_)
        refine WL.op rfl (d_cmp (decide ((timesT ((l.take (min l.length 20)).map EL.to) i j) = (-1 : Int))) rfl rfl rfl ?_)
        refine WL.op rfl (d_assign rfl ?_)
        refine WL.done (X.then_code ?_)
        refine W.ret (X.then_ret (X.ret1 rfl rfl ?_))
        exact ⟨(by exact congrArg Value.bool (decide_eq_true (by first | exact timesT_out (by omega) | exact timesT_unfit (by simpa using c128)))), H13.noneL⟩
      · skip
        refine WD.take hok2 3 (.int .i64 i) (fun _ => True) rfl rfl rfl rfl rfl trivial (.inl ⟨rfl, fun _ _ => d_move rfl ⟨rfl, rfl⟩⟩) ?_
        refine WD.take hok2 4 (.slice la ((l.take (min l.length 20)).length) lc) (fun _ => True) rfl rfl rfl rfl rfl trivial (.inl ⟨rfl, fun _ _ => d_move rfl ⟨rfl, rfl⟩⟩) ?_
        refine WD.take hok2 5 (.int .i64 (((l.take (min l.length 20)).length : Nat) : Int)) (fun _ => True) rfl rfl rfl rfl rfl trivial (.inl ⟨rfl, fun _ _ => d_lenS Try.underlying35 rfl ⟨rfl, rfl⟩⟩) ?_
        refine WD.take hok2 6 (.bool (decide (i ≥ (((l.take (min l.length 20)).length : Nat) : Int)))) (fun _ => True) rfl rfl rfl rfl rfl trivial (.inl ⟨rfl, fun _ _ => d_cmp (decide (i ≥ (((l.take (min l.length 20)).length : Nat) : Int))) rfl rfl rfl ⟨rfl, rfl⟩⟩) ?_
        refine WD.take hok2 7 (.bool (decide (i ≥ (((l.take (min l.length 20)).length : Nat) : Int)))) (fun _ => True) rfl rfl rfl rfl rfl trivial (.inl ⟨rfl, fun _ _ => d_pick rfl rfl ⟨rfl, rfl⟩⟩) ?_
        refine WD.take hok2 8 (.bool (decide (i ≥ (((l.take (min l.length 20)).length : Nat) : Int)))) (fun _ => True) rfl rfl rfl rfl rfl trivial (.inl ⟨rfl, fun _ _ => d_move rfl ⟨rfl, rfl⟩⟩) ?_
        refine WD.part 77 (p := i ≥ (((l.take (min l.length 20)).length : Nat) : Int)) rfl (fun g128x => ?_) (fun g128x => ?_)
        · skip
          refine WD.take hok2 9 undef (fun _ => True) rfl rfl rfl rfl rfl trivial (.inr ⟨rfl, rfl⟩) ?_
          refine WD.take hok2 10 undef (fun _ => True) rfl rfl rfl rfl rfl trivial (.inr ⟨rfl, rfl⟩) ?_
          refine WD.take hok2 11 (.bool true) (fun _ => True) rfl rfl rfl rfl rfl trivial (.inl ⟨rfl, fun _ _ => d_pick rfl rfl ⟨rfl, rfl⟩⟩) ?_
          refine WD.take hok2 12 (.bool true) (fun _ => True) rfl rfl rfl rfl rfl trivial (.inl ⟨rfl, fun _ _ => d_move rfl ⟨rfl, rfl⟩⟩) ?_
          refine WD.take hok2 13 undef (fun _ => True) rfl rfl rfl rfl rfl trivial (.inr ⟨rfl, rfl⟩) ?_
          refine WD.take hok2 14 undef (fun _ => True) rfl rfl rfl rfl rfl trivial (.inr ⟨rfl, rfl⟩) ?_
          refine WD.take hok2 15 undef (fun _ => True) rfl rfl rfl rfl rfl trivial (.inr ⟨rfl, rfl⟩) ?_
          refine WD.take hok2 16 undef (fun _ => True) rfl rfl rfl rfl rfl trivial (.inr ⟨rfl, rfl⟩) ?_
          refine WD.take hok2 17 (.bool true) (fun _ => True) rfl rfl rfl rfl rfl trivial (.inl ⟨rfl, fun _ _ => d_pick rfl rfl ⟨rfl, rfl⟩⟩) ?_
          refine WD.take hok2 18 (.bool true) (fun _ => True) rfl rfl rfl rfl rfl trivial (.inl ⟨rfl, fun _ _ => d_move rfl ⟨rfl, rfl⟩⟩) ?_
          refine WD.take hok2 19 undef (fun _ => True) rfl rfl rfl rfl rfl trivial (.inr ⟨rfl, rfl⟩) ?_
          refine WD.take hok2 20 undef (fun _ => True) rfl rfl rfl rfl rfl trivial (.inr ⟨rfl, rfl⟩) ?_
          refine WD.take hok2 21 undef (fun _ => True) rfl rfl rfl rfl rfl trivial (.inr ⟨rfl, rfl⟩) ?_
          refine WD.take hok2 22 undef (fun _ => True) rfl rfl rfl rfl rfl trivial (.inr ⟨rfl, rfl⟩) ?_
          refine WD.take hok2 23 undef (fun _ => True) rfl rfl rfl rfl rfl trivial (.inr ⟨rfl, rfl⟩) ?_
          refine WD.take hok2 24 undef (fun _ => True) rfl rfl rfl rfl rfl trivial (.inr ⟨rfl, rfl⟩) ?_
          refine WD.take hok2 25 undef (fun _ => True) rfl rfl rfl rfl rfl trivial (.inr ⟨rfl, rfl⟩) ?_
          refine WD.take hok2 26 undef (fun _ => True) rfl rfl rfl rfl rfl trivial (.inr ⟨rfl, rfl⟩) ?_
          refine WD.take hok2 27 undef (fun _ => True) rfl rfl rfl rfl rfl trivial (.inr ⟨rfl, rfl⟩) ?_
          refine WD.take hok2 28 undef (fun _ => True) rfl rfl rfl rfl rfl trivial (.inr ⟨rfl, rfl⟩) ?_
          refine WD.take hok2 29 undef (fun _ => True) rfl rfl rfl rfl rfl trivial (.inr ⟨rfl, rfl⟩) ?_
          refine WD.take hok2 30 undef (fun _ => True) rfl rfl rfl rfl rfl trivial (.inr ⟨rfl, rfl⟩) ?_
          refine WD.take hok2 31 (.bool true) (fun _ => True) rfl rfl rfl rfl rfl trivial (.inl ⟨rfl, fun _ _ => d_pick rfl rfl ⟨rfl, rfl⟩⟩) ?_
          refine WD.done hok2 rfl (X.then_code ?_)
          refine W.pick [100, 7, 0, 6, 1, 2] (Γ' := [(100, .bool true), (7, .int .i64 (timesT ((l.take (min l.length 20)).map EL.to) i j)), (0, .slice la ((l.take (min l.length 20)).length) lc), (6, .bool false), (1, .int .i64 i), (2, .int .i64 j)]) rfl ?_
          refine W.ift rfl ?_
          refine W.seq ?_
          refine W.region ?_
          refine WL.op rfl (d_move rfl ?_)
          refine WL.op rfl (d_cmp (decide ((timesT ((l.take (min l.length 20)).map EL.to) i j) = (-1 : Int))) rfl rfl rfl ?_)
          refine WL.op rfl (d_assign rfl ?_)
          refine WL.done (X.then_code ?_)
          refine W.ret (X.then_ret (X.ret1 rfl rfl ?_))
          exact ⟨(by exact congrArg Value.bool (decide_eq_true (by first | exact timesT_out (by omega) | exact timesT_unfit (by simpa using c128)))), H13.noneL⟩
        · skip
          refine WD.take hok2 9 (.int .i64 j) (fun _ => True) rfl rfl rfl rfl rfl trivial (.inl ⟨rfl, fun _ _ => d_move rfl ⟨rfl, rfl⟩⟩) ?_
          refine WD.take hok2 10 (.bool (decide (j < (0 : Int)))) (fun _ => True) rfl rfl rfl rfl rfl trivial (.inl ⟨rfl, fun _ _ => d_cmp (decide (j < (0 : Int))) rfl rfl rfl ⟨rfl, rfl⟩⟩) ?_
          refine WD.take hok2 11 (.bool (decide (j < (0 : Int)))) (fun _ => True) rfl rfl rfl rfl rfl trivial (.inl ⟨rfl, fun _ _ => d_pick rfl rfl ⟨rfl, rfl⟩⟩) ?_
          refine WD.take hok2 12 (.bool (decide (j < (0 : Int)))) (fun _ => True) rfl rfl rfl rfl rfl trivial (.inl ⟨rfl, fun _ _ => d_move rfl ⟨rfl, rfl⟩⟩) ?_
          refine WD.part 81 (p := j < (0 : Int)) rfl (fun g128xx => ?_) (fun g128xx => ?_)
          · skip
            refine WD.take hok2 13 undef (fun _ => True) rfl rfl rfl rfl rfl trivial (.inr ⟨rfl, rfl⟩) ?_
            refine WD.take hok2 14 undef (fun _ => True) rfl rfl rfl rfl rfl trivial (.inr ⟨rfl, rfl⟩) ?_
            refine WD.take hok2 15 undef (fun _ => True) rfl rfl rfl rfl rfl trivial (.inr ⟨rfl, rfl⟩) ?_
            refine WD.take hok2 16 undef (fun _ => True) rfl rfl rfl rfl rfl trivial (.inr ⟨rfl, rfl⟩) ?_
            refine WD.take hok2 17 (.bool true) (fun _ => True) rfl rfl rfl rfl rfl trivial (.inl ⟨rfl, fun _ _ => d_pick rfl rfl ⟨rfl, rfl⟩⟩) ?_
            refine WD.take hok2 18 (.bool true) (fun _ => True) rfl rfl rfl rfl rfl trivial (.inl ⟨rfl, fun _ _ => d_move rfl ⟨rfl, rfl⟩⟩) ?_
            refine WD.take hok2 19 undef (fun _ => True) rfl rfl rfl rfl rfl trivial (.inr ⟨rfl, rfl⟩) ?_
            refine WD.take hok2 20 undef (fun _ => True) rfl rfl rfl rfl rfl trivial (.inr ⟨rfl, rfl⟩) ?_
            refine WD.take hok2 21 undef (fun _ => True) rfl rfl rfl rfl rfl trivial (.inr ⟨rfl, rfl⟩) ?_
            refine WD.take hok2 22 undef (fun _ => True) rfl rfl rfl rfl rfl trivial (.inr ⟨rfl, rfl⟩) ?_
            refine WD.take hok2 23 undef (fun _ => True) rfl rfl rfl rfl rfl trivial (.inr ⟨rfl, rfl⟩) ?_
            refine WD.take hok2 24 undef (fun _ => True) rfl rfl rfl rfl rfl trivial (.inr ⟨rfl, rfl⟩) ?_
            refine WD.take hok2 25 undef (fun _ => True) rfl rfl rfl rfl rfl trivial (.inr ⟨rfl, rfl⟩) ?_
            refine WD.take hok2 26 undef (fun _ => True) rfl rfl rfl rfl rfl trivial (.inr ⟨rfl, rfl⟩) ?_
            refine WD.take hok2 27 undef (fun _ => True) rfl rfl rfl rfl rfl trivial (.inr ⟨rfl, rfl⟩) ?_
            refine WD.take hok2 28 undef (fun _ => True) rfl rfl rfl rfl rfl trivial (.inr ⟨rfl, rfl⟩) ?_
            refine WD.take hok2 29 undef (fun _ => True) rfl rfl rfl rfl rfl trivial (.inr ⟨rfl, rfl⟩) ?_
            refine WD.take hok2 30 undef (fun _ => True) rfl rfl rfl rfl rfl trivial (.inr ⟨rfl, rfl⟩) ?_
            refine WD.take hok2 31 (.bool true) (fun _ => True) rfl rfl rfl rfl rfl trivial (.inl ⟨rfl, fun _ _ => d_pick rfl rfl ⟨rfl, rfl⟩⟩) ?_
            refine WD.done hok2 rfl (X.then_code ?_)
            refine W.pick [100, 7, 0, 6, 1, 2] (Γ' := [(100, .bool true), (7, .int .i64 (timesT ((l.take (min l.length 20)).map EL.to) i j)), (0, .slice la ((l.take (min l.length 20)).length) lc), (6, .bool false), (1, .int .i64 i), (2, .int .i64 j)]) rfl ?_
            refine W.ift rfl ?_
            refine W.seq ?_
            refine W.region ?_
            refine WL.op rfl (d_move rfl ?_)
            refine WL.op rfl (d_cmp (decide ((timesT ((l.take (min l.length 20)).map EL.to) i j) = (-1 : Int))) rfl rfl rfl ?_)
            refine WL.op rfl (d_assign rfl ?_)
            refine WL.done (X.then_code ?_)
            refine W.ret (X.then_ret (X.ret1 rfl rfl ?_))
            exact ⟨(by exact congrArg Value.bool (decide_eq_true (by first | exact timesT_out (by omega) | exact timesT_unfit (by simpa using c128)))), H13.noneL⟩
          · skip
            refine WD.take hok2 13 (.int .i64 j) (fun _ => True) rfl rfl rfl rfl rfl trivial (.inl ⟨rfl, fun _ _ => d_move rfl ⟨rfl, rfl⟩⟩) ?_
            refine WD.take hok2 14 (.slice la ((l.take (min l.length 20)).length) lc) (fun _ => True) rfl rfl rfl rfl rfl trivial (.inl ⟨rfl, fun _ _ => d_move rfl ⟨rfl, rfl⟩⟩) ?_
            refine WD.take hok2 15 (.int .i64 (((l.take (min l.length 20)).length : Nat) : Int)) (fun _ => True) rfl rfl rfl rfl rfl trivial (.inl ⟨rfl, fun _ _ => d_lenS Try.underlying35 rfl ⟨rfl, rfl⟩⟩) ?_
            refine WD.take hok2 16 (.bool (decide (j ≥ (((l.take (min l.length 20)).length : Nat) : Int)))) (fun _ => True) rfl rfl rfl rfl rfl trivial (.inl ⟨rfl, fun _ _ => d_cmp (decide (j ≥ (((l.take (min l.length 20)).length : Nat) : Int))) rfl rfl rfl ⟨rfl, rfl⟩⟩) ?_
            refine WD.take hok2 17 (.bool (decide (j ≥ (((l.take (min l.length 20)).length : Nat) : Int)))) (fun _ => True) rfl rfl rfl rfl rfl trivial (.inl ⟨rfl, fun _ _ => d_pick rfl rfl ⟨rfl, rfl⟩⟩) ?_
            refine WD.take hok2 18 (.bool (decide (j ≥ (((l.take (min l.length 20)).length : Nat) : Int)))) (fun _ => True) rfl rfl rfl rfl rfl trivial (.inl ⟨rfl, fun _ _ => d_move rfl ⟨rfl, rfl⟩⟩) ?_
            refine WD.part 87 (p := j ≥ (((l.take (min l.length 20)).length : Nat) : Int)) rfl (fun g128xxx => ?_) (fun g128xxx => ?_)
            · skip
              refine WD.take hok2 19 undef (fun _ => True) rfl rfl rfl rfl rfl trivial (.inr ⟨rfl, rfl⟩) ?_
              refine WD.take hok2 20 undef (fun _ => True) rfl rfl rfl rfl rfl trivial (.inr ⟨rfl, rfl⟩) ?_
              refine WD.take hok2 21 undef (fun _ => True) rfl rfl rfl rfl rfl trivial (.inr ⟨rfl, rfl⟩) ?_
              refine WD.take hok2 22 undef (fun _ => True) rfl rfl rfl rfl rfl trivial (.inr ⟨rfl, rfl⟩) ?_
              refine WD.take hok2 23 undef (fun _ => True) rfl rfl rfl rfl rfl trivial (.inr ⟨rfl, rfl⟩) ?_
              refine WD.take hok2 24 undef (fun _ => True) rfl rfl rfl rfl rfl trivial (.inr ⟨rfl, rfl⟩) ?_
              refine WD.take hok2 25 undef (fun _ => True) rfl rfl rfl rfl rfl trivial (.inr ⟨rfl, rfl⟩) ?_
              refine WD.take hok2 26 undef (fun _ => True) rfl rfl rfl rfl rfl trivial (.inr ⟨rfl, rfl⟩) ?_
              refine WD.take hok2 27 undef (fun _ => True) rfl rfl rfl rfl rfl trivial (.inr ⟨rfl, rfl⟩) ?_
              refine WD.take hok2 28 undef (fun _ => True) rfl rfl rfl rfl rfl trivial (.inr ⟨rfl, rfl⟩) ?_
              refine WD.take hok2 29 undef (fun _ => True) rfl rfl rfl rfl rfl trivial (.inr ⟨rfl, rfl⟩) ?_
              refine WD.take hok2 30 undef (fun _ => True) rfl rfl rfl rfl rfl trivial (.inr ⟨rfl, rfl⟩) ?_
              refine WD.take hok2 31 (.bool true) (fun _ => True) rfl rfl rfl rfl rfl trivial (.inl ⟨rfl, fun _ _ => d_pick rfl rfl ⟨rfl, rfl⟩⟩) ?_
              refine WD.done hok2 rfl (X.then_code ?_)
              refine W.pick [100, 7, 0, 6, 1, 2] (Γ' := [(100, .bool true), (7, .int .i64 (timesT ((l.take (min l.length 20)).map EL.to) i j)), (0, .slice la ((l.take (min l.length 20)).length) lc), (6, .bool false), (1, .int .i64 i), (2, .int .i64 j)]) rfl ?_
              refine W.ift rfl ?_
              refine W.seq ?_
              refine W.region ?_
              refine WL.op rfl (d_move rfl ?_)
              refine WL.op rfl (d_cmp (decide ((timesT ((l.take (min l.length 20)).map EL.to) i j) = (-1 : Int))) rfl rfl rfl ?_)
              refine WL.op rfl (d_assign rfl ?_)
              refine WL.done (X.then_code ?_)
              refine W.ret (X.then_ret (X.ret1 rfl rfl ?_))
              exact ⟨(by exact congrArg Value.bool (decide_eq_true (by first | exact timesT_out (by omega) | exact timesT_unfit (by simpa using c128)))), H13.noneL⟩
            · skip
              refine WD.take hok2 19 (.slice la ((l.take (min l.length 20)).length) lc) (fun _ => True) rfl rfl rfl rfl rfl trivial (.inl ⟨rfl, fun _ _ => d_move rfl ⟨rfl, rfl⟩⟩) ?_
              refine WD.take hok2 20 (.int .i64 i) (fun _ => True) rfl rfl rfl rfl rfl trivial (.inl ⟨rfl, fun _ _ => d_move rfl ⟨rfl, rfl⟩⟩) ?_
              refine WD.take hok2 21 (elemPtr (.slice la ((l.take (min l.length 20)).length) lc) (i.toNat * 2)) (fun w' => RdT tyEL w' (.slice la ((l.take (min l.length 20)).length) lc) (l.take (min l.length 20))) rfl rfl rfl rfl rfl (rs1.at H13) (.inl ⟨rfl, fun _ hC => t_addrN i.toNat (T := tyEL) rfl Try.underlying35 sz45 rfl rfl hC (by omega) (by omega) ⟨rfl, rfl⟩⟩) ?_
              refine WD.take hok2 22 (elemPtr (.slice la ((l.take (min l.length 20)).length) lc) (i.toNat * 2 + 0)) (fun w' => RdT tyEL w' (.slice la ((l.take (min l.length 20)).length) lc) (l.take (min l.length 20))) rfl rfl rfl rfl rfl (rs1.at H13) (.inl ⟨rfl, fun _ hC => t_fld i.toNat el0 (T := tyEL) rfl fld45_0 rfl rfl hC (by omega) ⟨rfl, rfl⟩⟩) ?_
              refine WD.take hok2 23 (.slice (((l.take (min l.length 20)).getD i.toNat el0).a) (((l.take (min l.length 20)).getD i.toNat el0).n) (((l.take (min l.length 20)).getD i.toNat el0).c)) (fun w' => RdT tyEL w' (.slice la ((l.take (min l.length 20)).length) lc) (l.take (min l.length 20))) rfl rfl rfl rfl rfl (rs1.at H13) (.inl ⟨rfl, fun _ hC => t_loadF i.toNat el0 (T := tyEL) rfl rfl Try.underlying22 rfl rfl hC (by omega) rfl ⟨rfl, rfl⟩⟩) ?_
              refine WD.take hok2 24 (.slice la ((l.take (min l.length 20)).length) lc) (fun _ => True) rfl rfl rfl rfl rfl trivial (.inl ⟨rfl, fun _ _ => d_move rfl ⟨rfl, rfl⟩⟩) ?_
              refine WD.take hok2 25 (.int .i64 j) (fun _ => True) rfl rfl rfl rfl rfl trivial (.inl ⟨rfl, fun _ _ => d_move rfl ⟨rfl, rfl⟩⟩) ?_
              refine WD.take hok2 26 (elemPtr (.slice la ((l.take (min l.length 20)).length) lc) (j.toNat * 2)) (fun w' => RdT tyEL w' (.slice la ((l.take (min l.length 20)).length) lc) (l.take (min l.length 20))) rfl rfl rfl rfl rfl (rs1.at H13) (.inl ⟨rfl, fun _ hC => t_addrN j.toNat (T := tyEL) rfl Try.underlying35 sz45 rfl rfl hC (by omega) (by omega) ⟨rfl, rfl⟩⟩) ?_
              refine WD.take hok2 27 (elemPtr (.slice la ((l.take (min l.length 20)).length) lc) (j.toNat * 2 + 0)) (fun w' => RdT tyEL w' (.slice la ((l.take (min l.length 20)).length) lc) (l.take (min l.length 20))) rfl rfl rfl rfl rfl (rs1.at H13) (.inl ⟨rfl, fun _ hC => t_fld j.toNat el0 (T := tyEL) rfl fld45_0 rfl rfl hC (by omega) ⟨rfl, rfl⟩⟩) ?_
              refine WD.take hok2 28 (.slice (((l.take (min l.length 20)).getD j.toNat el0).a) (((l.take (min l.length 20)).getD j.toNat el0).n) (((l.take (min l.length 20)).getD j.toNat el0).c)) (fun w' => RdT tyEL w' (.slice la ((l.take (min l.length 20)).length) lc) (l.take (min l.length 20))) rfl rfl rfl rfl rfl (rs1.at H13) (.inl ⟨rfl, fun _ hC => t_loadF j.toNat el0 (T := tyEL) rfl rfl Try.underlying22 rfl rfl hC (by omega) rfl ⟨rfl, rfl⟩⟩) ?_
              refine WD.loud hok2 29 rfl (⟨_, [], rfl, rfl, rfl, rfl, rfl, rfl, d_call ok38 rfl (Ret.calls (fits_any (((l.take (min l.length 20)).getD i.toNat el0).a) (((l.take (min l.length 20)).getD i.toNat el0).to) (((l.take (min l.length 20)).getD i.toNat el0).c) (((l.take (min l.length 20)).getD i.toNat el0).n) (((l.take (min l.length 20)).getD j.toNat el0).a) (((l.take (min l.length 20)).getD j.toNat el0).to) (((l.take (min l.length 20)).getD j.toNat el0).c) (((l.take (min l.length 20)).getD j.toNat el0).n) w12 (show RdT (tyI .i64) w12 (.slice (((l.take (min l.length 20)).getD i.toNat el0).a) (((l.take (min l.length 20)).getD i.toNat el0).n) (((l.take (min l.length 20)).getD i.toNat el0).c)) (((l.take (min l.length 20)).getD i.toNat el0).to) from ((dl.at H13).take (min l.length 20)).get el0 i.toNat (by omega)) (show RdT (tyI .i64) w12 (.slice (((l.take (min l.length 20)).getD j.toNat el0).a) (((l.take (min l.length 20)).getD j.toNat el0).n) (((l.take (min l.length 20)).getD j.toNat el0).c)) (((l.take (min l.length 20)).getD j.toNat el0).to) from ((dl.at H13).take (min l.length 20)).get el0 j.toNat (by omega)) ) fun _ w13 p8 => ?_)⟩)
              obtain ⟨rfl, u10⟩ := p8
              have H14 : UpG w [] w13 [[rowT (tyI .i64) (.slice qa q.length qc) 3 q], [rowT (tyI .i64) (.slice a2_2 ((idemT ((l.take (min l.length 20)).map EL.to)).length) c2_2) 3 (idemT ((l.take (min l.length 20)).map EL.to))]] := H13.call u10
              refine ⟨trivial, ?_⟩
              refine WD.take hok2 30 (.bool (!(thenB (((l.take (min l.length 20)).getD i.toNat el0).to) (((l.take (min l.length 20)).getD j.toNat el0).to)))) (fun _ => True) rfl rfl rfl rfl rfl trivial (.inl ⟨rfl, fun _ _ => d_notB rfl ⟨rfl, rfl⟩⟩) ?_
              refine WD.take hok2 31 (.bool (!(thenB (((l.take (min l.length 20)).getD i.toNat el0).to) (((l.take (min l.length 20)).getD j.toNat el0).to)))) (fun _ => True) rfl rfl rfl rfl rfl trivial (.inl ⟨rfl, fun _ _ => d_pick rfl rfl ⟨rfl, rfl⟩⟩) ?_
              refine WD.done hok2 rfl (X.then_code ?_)
              refine W.pick [100, 7, 0, 6, 1, 2] (Γ' := [(100, .bool (!(thenB (((l.take (min l.length 20)).getD i.toNat el0).to) (((l.take (min l.length 20)).getD j.toNat el0).to)))), (7, .int .i64 (timesT ((l.take (min l.length 20)).map EL.to) i j)), (0, .slice la ((l.take (min l.length 20)).length) lc), (6, .bool false), (1, .int .i64 i), (2, .int .i64 j)]) rfl ?_
              refine W.iteB (b := !(thenB (((l.take (min l.length 20)).getD i.toNat el0).to) (((l.take (min l.length 20)).getD j.toNat el0).to))) rfl (fun c128 => ?_) (fun c128 => ?_)
              · skip
                refine W.seq ?_
                refine W.region ?_
                refine WL.op rfl (d_move rfl ?_)
                refine WL.op rfl (d_cmp (decide ((timesT ((l.take (min l.length 20)).map EL.to) i j) = (-1 : Int))) rfl rfl rfl ?_)
                refine WL.op rfl (d_assign rfl ?_)
                refine WL.done (X.then_code ?_)
                refine W.ret (X.then_ret (X.ret1 rfl rfl ?_))
                exact ⟨(by exact congrArg Value.bool (decide_eq_true (by first | exact timesT_out (by omega) | exact timesT_unfit (by simpa using c128)))), H14.noneL⟩
              · skip
                refine W.skip (X.then_code ?_)
                refine W.seq ?_
                refine W.region ?_
                refine WL.op rfl (d_assign rfl ?_)
                refine WL.done (X.then_code ?_)
                refine W.seq ?_
                refine W.regionD mixed (by kernel_rfl) fun hok3 w14 k3 => ?_
                have H15 : UpG w [] w14 [[rowT (tyI .i64) (.slice qa q.length qc) 3 q], [rowT (tyI .i64) (.slice a2_2 ((idemT ((l.take (min l.length 20)).map EL.to)).length) c2_2) 3 (idemT ((l.take (min l.length 20)).map EL.to))]] := H14.kept k3
                refine WD.take hok3 0 (.slice la ((l.take (min l.length 20)).length) lc) (fun _ => True) rfl rfl rfl rfl rfl trivial (.inl ⟨rfl, fun _ _ => d_move rfl ⟨rfl, rfl⟩⟩) ?_
                refine WD.take hok3 1 (.int .i64 i) (fun _ => True) rfl rfl rfl rfl rfl trivial (.inl ⟨rfl, fun _ _ => d_move rfl ⟨rfl, rfl⟩⟩) ?_
                refine WD.take hok3 2 (elemPtr (.slice la ((l.take (min l.length 20)).length) lc) (i.toNat * 2)) (fun w' => RdT tyEL w' (.slice la ((l.take (min l.length 20)).length) lc) (l.take (min l.length 20))) rfl rfl rfl rfl rfl (rs1.at H15) (.inl ⟨rfl, fun _ hC => t_addrN i.toNat (T := tyEL) rfl Try.underlying35 sz45 rfl rfl hC (by omega) (by omega) ⟨rfl, rfl⟩⟩) ?_
                refine WD.take hok3 3 (elemPtr (.slice la ((l.take (min l.length 20)).length) lc) (i.toNat * 2 + 0)) (fun w' => RdT tyEL w' (.slice la ((l.take (min l.length 20)).length) lc) (l.take (min l.length 20))) rfl rfl rfl rfl rfl (rs1.at H15) (.inl ⟨rfl, fun _ hC => t_fld i.toNat el0 (T := tyEL) rfl fld45_0 rfl rfl hC (by omega) ⟨rfl, rfl⟩⟩) ?_
                refine WD.take hok3 4 (.slice (((l.take (min l.length 20)).getD i.toNat el0).a) (((l.take (min l.length 20)).getD i.toNat el0).n) (((l.take (min l.length 20)).getD i.toNat el0).c)) (fun w' => RdT tyEL w' (.slice la ((l.take (min l.length 20)).length) lc) (l.take (min l.length 20))) rfl rfl rfl rfl rfl (rs1.at H15) (.inl ⟨rfl, fun _ hC => t_loadF i.toNat el0 (T := tyEL) rfl rfl Try.underlying22 rfl rfl hC (by omega) rfl ⟨rfl, rfl⟩⟩) ?_
                refine WD.take hok3 5 (.slice la ((l.take (min l.length 20)).length) lc) (fun _ => True) rfl rfl rfl rfl rfl trivial (.inl ⟨rfl, fun _ _ => d_move rfl ⟨rfl, rfl⟩⟩) ?_
                refine WD.take hok3 6 (.int .i64 j) (fun _ => True) rfl rfl rfl rfl rfl trivial (.inl ⟨rfl, fun _ _ => d_move rfl ⟨rfl, rfl⟩⟩) ?_
                refine WD.take hok3 7 (elemPtr (.slice la ((l.take (min l.length 20)).length) lc) (j.toNat * 2)) (fun w' => RdT tyEL w' (.slice la ((l.take (min l.length 20)).length) lc) (l.take (min l.length 20))) rfl rfl rfl rfl rfl (rs1.at H15) (.inl ⟨rfl, fun _ hC => t_addrN j.toNat (T := tyEL) rfl Try.underlying35 sz45 rfl rfl hC (by omega) (by omega) ⟨rfl, rfl⟩⟩) ?_
                refine WD.take hok3 8 (elemPtr (.slice la ((l.take (min l.length 20)).length) lc) (j.toNat * 2 + 0)) (fun w' => RdT tyEL w' (.slice la ((l.take (min l.length 20)).length) lc) (l.take (min l.length 20))) rfl rfl rfl rfl rfl (rs1.at H15) (.inl ⟨rfl, fun _ hC => t_fld j.toNat el0 (T := tyEL) rfl fld45_0 rfl rfl hC (by omega) ⟨rfl, rfl⟩⟩) ?_
                refine WD.take hok3 9 (.slice (((l.take (min l.length 20)).getD j.toNat el0).a) (((l.take (min l.length 20)).getD j.toNat el0).n) (((l.take (min l.length 20)).getD j.toNat el0).c)) (fun w' => RdT tyEL w' (.slice la ((l.take (min l.length 20)).length) lc) (l.take (min l.length 20))) rfl rfl rfl rfl rfl (rs1.at H15) (.inl ⟨rfl, fun _ hC => t_loadF j.toNat el0 (T := tyEL) rfl rfl Try.underlying22 rfl rfl hC (by omega) rfl ⟨rfl, rfl⟩⟩) ?_
                refine WD.loud hok3 10 rfl (⟨_, [], rfl, rfl, rfl, rfl, rfl, rfl, d_call ok34 rfl (Ret.calls (thenR_any (((l.take (min l.length 20)).getD i.toNat el0).a) (((l.take (min l.length 20)).getD i.toNat el0).to) (((l.take (min l.length 20)).getD i.toNat el0).c) (((l.take (min l.length 20)).getD i.toNat el0).n) (((l.take (min l.length 20)).getD j.toNat el0).a) (((l.take (min l.length 20)).getD j.toNat el0).to) (((l.take (min l.length 20)).getD j.toNat el0).c) (((l.take (min l.length 20)).getD j.toNat el0).n) w14 (show RdT (tyI .i64) w14 (.slice (((l.take (min l.length 20)).getD i.toNat el0).a) (((l.take (min l.length 20)).getD i.toNat el0).n) (((l.take (min l.length 20)).getD i.toNat el0).c)) (((l.take (min l.length 20)).getD i.toNat el0).to) from ((dl.at H15).take (min l.length 20)).get el0 i.toNat (by omega)) (show RdT (tyI .i64) w14 (.slice (((l.take (min l.length 20)).getD j.toNat el0).a) (((l.take (min l.length 20)).getD j.toNat el0).n) (((l.take (min l.length 20)).getD j.toNat el0).c)) (((l.take (min l.length 20)).getD j.toNat el0).to) from ((dl.at H15).take (min l.length 20)).get el0 j.toNat (by omega)) (hE _ (List.mem_of_mem_take (getD_mem' (by omega)))) (by first | exact g121 | (simpa using g128xxxx) | (simpa using c128))) fun _ w15 p9 => ?_)⟩)
                obtain ⟨a2_3, c2_3, rfl, u11⟩ := p9
                have H16 : UpG w [] w15 [[rowT (tyI .i64) (.slice qa q.length qc) 3 q], [rowT (tyI .i64) (.slice a2_2 ((idemT ((l.take (min l.length 20)).map EL.to)).length) c2_2) 3 (idemT ((l.take (min l.length 20)).map EL.to))], [rowT (tyI .i64) (.slice a2_3 ((thenL (((l.take (min l.length 20)).getD i.toNat el0).to) (((l.take (min l.length 20)).getD j.toNat el0).to)).length) c2_3) 3 (thenL (((l.take (min l.length 20)).getD i.toNat el0).to) (((l.take (min l.length 20)).getD j.toNat el0).to))]] := (H15.new' u11).re rfl
                refine ⟨trivial, ?_⟩
                refine WD.take hok3 11 (.slice a2_3 ((thenL (((l.take (min l.length 20)).getD i.toNat el0).to) (((l.take (min l.length 20)).getD j.toNat el0).to)).length) c2_3) (fun _ => True) rfl rfl rfl rfl rfl trivial (.inl ⟨rfl, fun _ _ => d_assign rfl ⟨rfl, rfl⟩⟩) ?_
                refine WD.done hok3 rfl (X.then_code ?_)
                refine W.seq ?_
                refine W.seq ?_
                refine W.region ?_
                refine WL.op rfl (d_move rfl ?_)
                refine WL.op rfl (d_lenS Try.underlying35 rfl ?_)
                refine WL.op rfl (d_sub rfl rfl (by omega) (by omega) ?_)
                refine WL.op rfl (d_assign rfl ?_)
                refine WL.done (X.then_code ?_)
                refine W.block ?_
                refine W.pick [12, 11, 10, 7, 0, 6] (Γ' := [(12, .int .i64 ((((l.take (min l.length 20)).length : Nat) : Int) - 1)), (11, .slice a2_3 ((thenL (((l.take (min l.length 20)).getD i.toNat el0).to) (((l.take (min l.length 20)).getD j.toNat el0).to)).length) c2_3), (10, .int .i64 (-1)), (7, .int .i64 (timesT ((l.take (min l.length 20)).map EL.to) i j)), (0, .slice la ((l.take (min l.length 20)).length) lc), (6, .bool false)]) rfl ?_
                refine W.loop (fun m Γ' w' => ∃ y : Int, ∃ wa : Int, Γ' = [(12, .int .i64 y), (11, .slice a2_3 ((thenL (((l.take (min l.length 20)).getD i.toNat el0).to) (((l.take (min l.length 20)).getD j.toNat el0).to)).length) c2_3), (10, .int .i64 wa), (7, .int .i64 (timesT ((l.take (min l.length 20)).map EL.to) i j)), (0, .slice la ((l.take (min l.length 20)).length) lc), (6, .bool false)] ∧ UpG w [] w' [[rowT (tyI .i64) (.slice qa q.length qc) 3 q], [rowT (tyI .i64) (.slice a2_2 ((idemT ((l.take (min l.length 20)).map EL.to)).length) c2_2) 3 (idemT ((l.take (min l.length 20)).map EL.to))], [rowT (tyI .i64) (.slice a2_3 ((thenL (((l.take (min l.length 20)).getD i.toNat el0).to) (((l.take (min l.length 20)).getD j.toNat el0).to)).length) c2_3) 3 (thenL (((l.take (min l.length 20)).getD i.toNat el0).to) (((l.take (min l.length 20)).getD j.toNat el0).to))]] ∧ (-1 ≤ y ∧ y < ((l.take (min l.length 20)).length : Int)) ∧ (wa = fT ((l.take (min l.length 20)).map EL.to) (thenL ((l.take (min l.length 20)).getD i.toNat el0).to ((l.take (min l.length 20)).getD j.toNat el0).to) (y + 1).toNat) ∧ m = (y + 1).toNat) ((((((l.take (min l.length 20)).length : Nat) : Int) - 1) + 1).toNat) ⟨(((l.take (min l.length 20)).length : Nat) : Int) - 1, -1, rfl, H16, (by omega), (by rw [fT_end _ _ (by rw [List.length_map]; omega)]), rfl⟩ ?_
                rintro m2 Γ2 w16 ⟨y, wa, rfl, H17, hy, hw, rfl⟩
                refine W.seq ?_
                refine W.seq ?_
                refine W.region ?_
                refine WL.op rfl (d_move rfl ?_)
                refine WL.op rfl (d_cmp (decide (y ≥ (0 : Int))) rfl rfl rfl ?_)
                refine WL.done (X.then_code ?_)
                refine W.ite (p := y ≥ (0 : Int)) rfl (fun c133 => ?_) (fun c133 => ?_)
                · skip
                  refine W.skip (X.then_code ?_)
                  refine W.seq ?_
                  refine W.block ?_
                  refine W.seq ?_
                  refine W.region ?_
                  refine WL.op rfl (d_move rfl ?_)
                  refine WL.op rfl (d_move rfl ?_)
                  refine WL.op rfl (t_addrN y.toNat (T := tyEL) rfl Try.underlying35 sz45 rfl rfl (rs1.at H17) (by omega) (by omega) ?_)
                  refine WL.op rfl (t_fld y.toNat el0 (T := tyEL) rfl fld45_0 rfl rfl (rs1.at H17) (by omega) ?_)
                  refine WL.op rfl (t_loadF y.toNat el0 (T := tyEL) rfl rfl Try.underlying22 rfl rfl (rs1.at H17) (by omega) rfl ?_)
                  refine WL.op rfl (d_move rfl ?_)
                  refine WL.op rfl (d_call ok32 rfl (Ret.calls (same10_any (((l.take (min l.length 20)).getD y.toNat el0).a) (((l.take (min l.length 20)).getD y.toNat el0).to) (((l.take (min l.length 20)).getD y.toNat el0).c) (((l.take (min l.length 20)).getD y.toNat el0).n) a2_3 (thenL (((l.take (min l.length 20)).getD i.toNat el0).to) (((l.take (min l.length 20)).getD j.toNat el0).to)) c2_3 ((thenL (((l.take (min l.length 20)).getD i.toNat el0).to) (((l.take (min l.length 20)).getD j.toNat el0).to)).length) w16 (show RdT (tyI .i64) w16 (.slice (((l.take (min l.length 20)).getD y.toNat el0).a) (((l.take (min l.length 20)).getD y.toNat el0).n) (((l.take (min l.length 20)).getD y.toNat el0).c)) (((l.take (min l.length 20)).getD y.toNat el0).to) from ((dl.at H17).take (min l.length 20)).get el0 y.toNat (by omega)) (H17.rdT 2 rfl) ) fun _ w17 p10 => ?_))
                  obtain ⟨rfl, u12⟩ := p10
                  have H18 : UpG w [] w17 [[rowT (tyI .i64) (.slice qa q.length qc) 3 q], [rowT (tyI .i64) (.slice a2_2 ((idemT ((l.take (min l.length 20)).map EL.to)).length) c2_2) 3 (idemT ((l.take (min l.length 20)).map EL.to))], [rowT (tyI .i64) (.slice a2_3 ((thenL (((l.take (min l.length 20)).getD i.toNat el0).to) (((l.take (min l.length 20)).getD j.toNat el0).to)).length) c2_3) 3 (thenL (((l.take (min l.length 20)).getD i.toNat el0).to) (((l.take (min l.length 20)).getD j.toNat el0).to))]] := H17.call u12
                  refine WL.done (X.then_code ?_)
                  refine W.ite (p := (((l.take (min l.length 20)).getD y.toNat el0).to) = (thenL (((l.take (min l.length 20)).getD i.toNat el0).to) (((l.take (min l.length 20)).getD j.toNat el0).to))) rfl (fun c134 => ?_) (fun c134 => ?_)
                  · skip
                    refine W.region ?_
                    refine WL.op rfl (d_move rfl ?_)
                    refine WL.op rfl (d_assign rfl ?_)
                    refine WL.done (X.block_normal (X.then_code ?_))
                    refine W.region ?_
                    refine WL.op rfl (d_move rfl ?_)
                    refine WL.op rfl (d_sub rfl rfl (by omega) (by omega) ?_)
                    refine WL.op rfl (d_assign rfl ?_)
                    refine WL.done ?_
                    exact X.next [12, 11, 10, 7, 0, 6] (Γ' := [(12, .int .i64 (y - 1)), (11, .slice a2_3 ((thenL (((l.take (min l.length 20)).getD i.toNat el0).to) (((l.take (min l.length 20)).getD j.toNat el0).to)).length) c2_3), (10, .int .i64 y), (7, .int .i64 (timesT ((l.take (min l.length 20)).map EL.to) i j)), (0, .slice la ((l.take (min l.length 20)).length) lc), (6, .bool false)]) rfl (((y - 1) + 1).toNat) (by omega) ⟨y - 1, y, rfl, H18, (by omega), (by first | exact fT_yesI (by omega) (by rw [List.length_map]; omega) (by rw [mapTo_getD]; exact c134) | (rw [hw]; exact fT_noI (by omega) (by rw [List.length_map]; omega) (by rw [mapTo_getD]; exact c134))), rfl⟩
                  · skip
                    refine W.skip (X.block_normal (X.then_code ?_))
                    refine W.region ?_
                    refine WL.op rfl (d_move rfl ?_)
                    refine WL.op rfl (d_sub rfl rfl (by omega) (by omega) ?_)
                    refine WL.op rfl (d_assign rfl ?_)
                    refine WL.done ?_
                    exact X.next [12, 11, 10, 7, 0, 6] (Γ' := [(12, .int .i64 (y - 1)), (11, .slice a2_3 ((thenL (((l.take (min l.length 20)).getD i.toNat el0).to) (((l.take (min l.length 20)).getD j.toNat el0).to)).length) c2_3), (10, .int .i64 wa), (7, .int .i64 (timesT ((l.take (min l.length 20)).map EL.to) i j)), (0, .slice la ((l.take (min l.length 20)).length) lc), (6, .bool false)]) rfl (((y - 1) + 1).toNat) (by omega) ⟨y - 1, wa, rfl, H18, (by omega), (by first | exact fT_yesI (by omega) (by rw [List.length_map]; omega) (by rw [mapTo_getD]; exact c134) | (rw [hw]; exact fT_noI (by omega) (by rw [List.length_map]; omega) (by rw [mapTo_getD]; exact c134))), rfl⟩
                · skip
                  refine W.exit (X.then_exit (X.then_exit (X.block_exit (X.then_code ?_))))
                  refine W.seq ?_
                  refine W.region ?_
                  refine WL.op rfl (d_move rfl ?_)
                  refine WL.op rfl (d_move rfl ?_)
                  refine WL.op rfl (d_cmp (decide ((timesT ((l.take (min l.length 20)).map EL.to) i j) = wa)) rfl rfl rfl ?_)
                  refine WL.op rfl (d_assign rfl ?_)
                  refine WL.done (X.then_code ?_)
                  refine W.ret (X.ret1 rfl rfl ?_)
                  exact ⟨(by exact congrArg Value.bool (decide_eq_true (by rw [timesT_in (by omega) (by omega) (by simpa using c128), hw, show (y + 1).toNat = 0 by omega, fT_zero]))), H17.noneL⟩
end Go.Proofs.Ytoeockpkkmgieaa
