/- The walks of functions, printed by wip/tools/gw.py. -/
import Derived.Test.YtoeockpkkmgieaaF2
import Derived.Test.YtoeockpkkmgieaaSx7
import Derived.Test.YtoeockpkkmgieaaSortV
namespace Go.Proofs.Ytoeockpkkmgieaa
open Go Go.Sx
set_option linter.unusedVariables false
set_option linter.unusedSimpArgs false
set_option maxRecDepth 20000 in
theorem nan8_any (x : Int) (w : World) :
    Calls Try.prog 136 #[.int .u8 x] w (Ret fun v w' => v = .bool false ∧ Upd w [] w' []) := by
  refine calls_of_W (args := [.int .u8 x]) Try.func136 rfl rfl rfl ?_
  have H0 : UpG w [] w [] := UpG.nil w
  show W _ _ _ _ [(0, .int .u8 x)] w
  refine W.seq ?_
  refine W.region ?_
  refine WL.op rfl (d_assign rfl ?_)
  refine WL.done (X.then_code ?_)
  refine W.seq ?_
  refine W.region ?_
  refine WL.op rfl (d_move rfl ?_)
  refine WL.op rfl (d_move rfl ?_)
  refine WL.op rfl (d_cmp (decide (x ≠ x)) rfl rfl rfl ?_)
  refine WL.op rfl (d_assign rfl ?_)
  refine WL.done (X.then_code ?_)
  refine W.ret (X.ret1 rfl rfl ?_)
  exact ⟨(by simp), H0.noneL⟩

set_option maxRecDepth 20000 in
theorem less8_any (x : Int) (y : Int) (w : World) :
    Calls Try.prog 124 #[.int .u8 x, .int .u8 y] w (Ret fun v w' => v = .bool (decide (x < y)) ∧ Upd w [] w' []) := by
  refine calls_of_W (args := [.int .u8 x, .int .u8 y]) Try.func124 rfl rfl rfl ?_
  have H0 : UpG w [] w [] := UpG.nil w
  show W _ _ _ _ [(0, .int .u8 x), (1, .int .u8 y)] w
  refine W.seq ?_
  refine W.region ?_
  refine WL.op rfl (d_assign rfl ?_)
  refine WL.done (X.then_code ?_)
  refine W.seq ?_
  refine W.region ?_
  refine WL.op rfl (d_move rfl ?_)
  refine WL.op rfl (d_call ok136 rfl (Ret.calls (nan8_any x w  ) fun _ w1 p1 => ?_))
  obtain ⟨rfl, u1⟩ := p1
  have H1 : UpG w [] w1 [] := H0.call u1
  refine WL.op rfl (d_move rfl ?_)
  refine WL.opN rfl rfl rfl rfl ?_
  refine WL.opN rfl rfl rfl rfl ?_
  refine WL.opN rfl rfl rfl rfl ?_
  refine WL.op rfl (d_pick rfl rfl ?_)
  refine WL.op rfl (d_move rfl ?_)
  refine WL.opG rfl rfl rfl (d_move rfl ?_)
  refine WL.opG rfl rfl rfl (d_move rfl ?_)
  refine WL.opG rfl rfl rfl (d_cmp (decide (x < y)) rfl rfl rfl ?_)
  refine WL.op rfl (d_pick rfl rfl ?_)
  refine WL.op rfl (d_assign rfl ?_)
  refine WL.done (X.then_code ?_)
  refine W.ret (X.ret1 rfl rfl ?_)
  exact ⟨rfl, H1.noneL⟩

set_option maxRecDepth 20000 in
theorem ins8_any (da : Option Addr) (xs : List Int) (dc : Nat) (dn : Nat) (aI : Int) (a : Nat) (bI : Int) (b : Nat) (w : World) (hp : Hp w [rowT (tyI .u8) (.slice da dn dc) 5 xs]) (e_a : aI = ((a : Nat) : Int)) (e_b : bI = ((b : Nat) : Int)) (hab : a ≤ b ∧ b ≤ xs.length ∧ xs.length ≤ 1000000) :
    Calls Try.prog 118 #[.slice da dn dc, .int .i64 aI, .int .i64 bI] w (Ret fun v w' => v = .tuple #[] ∧ Upd w [rowT (tyI .u8) (.slice da dn dc) 5 xs] w' [rowT (tyI .u8) (.slice da dn dc) 5 ((Go.Sort.insertionSort Go.Sort.ltInt xs.toArray a b).toList)]) := by
  subst e_a
  subst e_b
  have hn := (hp_rdT hp (List.mem_of_getElem? (i := 0) rfl)).len
  refine calls_of_W (args := [.slice da dn dc, .int .i64 ((a : Nat) : Int), .int .i64 ((b : Nat) : Int)]) Try.func118 rfl rfl rfl ?_
  have H0 : UpG w [rowT (tyI .u8) (.slice da dn dc) 5 xs] w [[rowT (tyI .u8) (.slice da dn dc) 5 xs]] := (UpG.refl hp).re rfl
  show W _ _ _ _ [(0, .slice da dn dc), (1, .int .i64 ((a : Nat) : Int)), (2, .int .i64 ((b : Nat) : Int))] w
  refine W.seq ?_
  refine W.region ?_
  refine WL.op rfl (d_move rfl ?_)
  refine WL.op rfl (d_add rfl rfl (by omega) (by omega) ?_)
  refine WL.op rfl (d_assign rfl ?_)
  refine WL.done (X.then_code ?_)
  refine W.block ?_
  refine W.pick [6, 0, 1, 2] (Γ' := [(6, .int .i64 (((a : Nat) : Int) + 1)), (0, .slice da dn dc), (1, .int .i64 ((a : Nat) : Int)), (2, .int .i64 ((b : Nat) : Int))]) rfl ?_
  refine W.loop (fun m Γ' w' => ∃ i : Nat, ∃ ys : List Int, Γ' = [(6, .int .i64 ((i : Nat) : Int)), (0, .slice da dn dc), (1, .int .i64 ((a : Nat) : Int)), (2, .int .i64 ((b : Nat) : Int))] ∧ UpG w [rowT (tyI .u8) (.slice da dn dc) 5 xs] w' [[rowT (tyI .u8) (.slice da dn dc) 5 ys]] ∧ (a + 1 ≤ i) ∧ (ys.length = xs.length) ∧ (Go.Sort.insOuter Go.Sort.ltInt a b i ys.toArray = Go.Sort.insertionSort Go.Sort.ltInt xs.toArray a b) ∧ m = b - i) (b - (a + 1)) ⟨a + 1, xs, rfl, H0, (by omega), (by rfl), (by rfl), rfl⟩ ?_
  rintro m1 Γ1 w1 ⟨i, ys, rfl, H1, hi, hzys, hI, rfl⟩
  refine W.seq ?_
  refine W.seq ?_
  refine W.region ?_
  refine WL.op rfl (d_move rfl ?_)
  refine WL.op rfl (d_move rfl ?_)
  refine WL.op rfl (d_cmp (decide (((i : Nat) : Int) < ((b : Nat) : Int))) rfl rfl rfl ?_)
  refine WL.done (X.then_code ?_)
  refine W.ite (p := ((i : Nat) : Int) < ((b : Nat) : Int)) rfl (fun c13 => ?_) (fun c13 => ?_)
  · skip
    refine W.skip (X.then_code ?_)
    refine W.seq ?_
    refine W.block ?_
    refine W.seq ?_
    refine W.region ?_
    refine WL.op rfl (d_move rfl ?_)
    refine WL.op rfl (d_assign rfl ?_)
    refine WL.done (X.then_code ?_)
    refine W.block ?_
    refine W.pick [7, 6, 0, 1, 2] (Γ' := [(7, .int .i64 ((i : Nat) : Int)), (6, .int .i64 ((i : Nat) : Int)), (0, .slice da dn dc), (1, .int .i64 ((a : Nat) : Int)), (2, .int .i64 ((b : Nat) : Int))]) rfl ?_
    refine W.loop (fun m Γ' w' => ∃ j : Int, ∃ zs : List Int, Γ' = [(7, .int .i64 j), (6, .int .i64 ((i : Nat) : Int)), (0, .slice da dn dc), (1, .int .i64 ((a : Nat) : Int)), (2, .int .i64 ((b : Nat) : Int))] ∧ UpG w [rowT (tyI .u8) (.slice da dn dc) 5 xs] w' [[rowT (tyI .u8) (.slice da dn dc) 5 zs]] ∧ ((a : Int) ≤ j ∧ j ≤ (i : Int)) ∧ (zs.length = xs.length) ∧ (Go.Sort.insInner Go.Sort.ltInt a i ys.toArray = Go.Sort.insInner Go.Sort.ltInt a j.toNat zs.toArray) ∧ m = j.toNat) (((i : Nat) : Int).toNat) ⟨((i : Nat) : Int), ys, rfl, H1, (by omega), (by omega), (by rw [Int.toNat_natCast]), rfl⟩ ?_
    rintro m2 Γ2 w2 ⟨j, zs, rfl, H2, hj, hzzs, hZ, rfl⟩
    refine W.seq ?_
    refine W.seq ?_
    refine W.regionD mixed (by kernel_rfl) fun hok1 w3 k1 => ?_
    have H3 : UpG w [rowT (tyI .u8) (.slice da dn dc) 5 xs] w3 [[rowT (tyI .u8) (.slice da dn dc) 5 zs]] := H2.kept k1
    refine WD.take hok1 0 (.int .i64 j) (fun _ => True) rfl rfl rfl rfl rfl trivial (.inl ⟨rfl, fun _ _ => d_move rfl ⟨rfl, rfl⟩⟩) ?_
    refine WD.take hok1 1 (.int .i64 ((a : Nat) : Int)) (fun _ => True) rfl rfl rfl rfl rfl trivial (.inl ⟨rfl, fun _ _ => d_move rfl ⟨rfl, rfl⟩⟩) ?_
    refine WD.take hok1 2 (.bool (decide (j > ((a : Nat) : Int)))) (fun _ => True) rfl rfl rfl rfl rfl trivial (.inl ⟨rfl, fun _ _ => d_cmp (decide (j > ((a : Nat) : Int))) rfl rfl rfl ⟨rfl, rfl⟩⟩) ?_
    refine WD.take hok1 3 (.bool (decide (j > ((a : Nat) : Int)))) (fun _ => True) rfl rfl rfl rfl rfl trivial (.inl ⟨rfl, fun _ _ => d_move rfl ⟨rfl, rfl⟩⟩) ?_
    refine WD.part 19 (p := j > ((a : Nat) : Int)) rfl (fun g14 => ?_) (fun g14 => ?_)
    · skip
      refine WD.take hok1 4 (.slice da dn dc) (fun _ => True) rfl rfl rfl rfl rfl trivial (.inl ⟨rfl, fun _ _ => d_move rfl ⟨rfl, rfl⟩⟩) ?_
      refine WD.take hok1 5 (.int .i64 j) (fun _ => True) rfl rfl rfl rfl rfl trivial (.inl ⟨rfl, fun _ _ => d_move rfl ⟨rfl, rfl⟩⟩) ?_
      refine WD.take hok1 6 (elemPtr (.slice da dn dc) j.toNat) (fun w' => RdT (tyI .u8) w' (.slice da dn dc) zs) rfl rfl rfl rfl rfl (H3.rdT 0 rfl) (.inl ⟨rfl, fun _ hC => t_addr1 j.toNat (T := (tyI .u8)) rfl Try.underlying85 sz5 rfl rfl hC (by omega) (by omega) ⟨rfl, rfl⟩⟩) ?_
      refine WD.take hok1 7 (.int .u8 (zs.getD j.toNat 0)) (fun w' => RdT (tyI .u8) w' (.slice da dn dc) zs) rfl rfl rfl rfl rfl (H3.rdT 0 rfl) (.inl ⟨rfl, fun _ hC => t_load1 j.toNat 0 (T := (tyI .u8)) rfl Try.underlying5 rfl rfl hC (by omega) rfl ⟨rfl, rfl⟩⟩) ?_
      refine WD.take hok1 8 (.slice da dn dc) (fun _ => True) rfl rfl rfl rfl rfl trivial (.inl ⟨rfl, fun _ _ => d_move rfl ⟨rfl, rfl⟩⟩) ?_
      refine WD.take hok1 9 (.int .i64 j) (fun _ => True) rfl rfl rfl rfl rfl trivial (.inl ⟨rfl, fun _ _ => d_move rfl ⟨rfl, rfl⟩⟩) ?_
      refine WD.take hok1 10 (.int .i64 (j - 1)) (fun _ => True) rfl rfl rfl rfl rfl trivial (.inl ⟨rfl, fun _ _ => d_sub rfl rfl (by omega) (by omega) ⟨rfl, rfl⟩⟩) ?_
      refine WD.take hok1 11 (elemPtr (.slice da dn dc) ((j - 1).toNat)) (fun w' => RdT (tyI .u8) w' (.slice da dn dc) zs) rfl rfl rfl rfl rfl (H3.rdT 0 rfl) (.inl ⟨rfl, fun _ hC => t_addr1 ((j - 1).toNat) (T := (tyI .u8)) rfl Try.underlying85 sz5 rfl rfl hC (by omega) (by omega) ⟨rfl, rfl⟩⟩) ?_
      refine WD.take hok1 12 (.int .u8 (zs.getD ((j - 1).toNat) 0)) (fun w' => RdT (tyI .u8) w' (.slice da dn dc) zs) rfl rfl rfl rfl rfl (H3.rdT 0 rfl) (.inl ⟨rfl, fun _ hC => t_load1 ((j - 1).toNat) 0 (T := (tyI .u8)) rfl Try.underlying5 rfl rfl hC (by omega) rfl ⟨rfl, rfl⟩⟩) ?_
      refine WD.loud hok1 13 rfl (⟨_, [], rfl, rfl, rfl, rfl, rfl, rfl, d_call ok124 rfl (Ret.calls (less8_any (zs.getD j.toNat 0) (zs.getD ((j - 1).toNat) 0) w3  ) fun _ w4 p1 => ?_)⟩)
      obtain ⟨rfl, u1⟩ := p1
      have H4 : UpG w [rowT (tyI .u8) (.slice da dn dc) 5 xs] w4 [[rowT (tyI .u8) (.slice da dn dc) 5 zs]] := H3.call u1
      refine ⟨trivial, ?_⟩
      refine WD.take hok1 14 (.bool (decide ((zs.getD j.toNat 0) < (zs.getD ((j - 1).toNat) 0)))) (fun _ => True) rfl rfl rfl rfl rfl trivial (.inl ⟨rfl, fun _ _ => d_pick rfl rfl ⟨rfl, rfl⟩⟩) ?_
      refine WD.done hok1 rfl (X.then_code ?_)
      refine W.ite (p := (zs.getD j.toNat 0) < (zs.getD ((j - 1).toNat) 0)) rfl (fun c14 => ?_) (fun c14 => ?_)
      · skip
        refine W.skip (X.then_code ?_)
        refine W.seq ?_
        refine W.block ?_
        refine W.regionD mixed (by kernel_rfl) fun hok2 w5 k2 => ?_
        have H5 : UpG w [rowT (tyI .u8) (.slice da dn dc) 5 xs] w5 [[rowT (tyI .u8) (.slice da dn dc) 5 zs]] := H4.kept k2
        refine WD.take hok2 0 (.slice da dn dc) (fun _ => True) rfl rfl rfl rfl rfl trivial (.inl ⟨rfl, fun _ _ => d_move rfl ⟨rfl, rfl⟩⟩) ?_
        refine WD.take hok2 1 (.int .i64 j) (fun _ => True) rfl rfl rfl rfl rfl trivial (.inl ⟨rfl, fun _ _ => d_move rfl ⟨rfl, rfl⟩⟩) ?_
        refine WD.take hok2 2 (.slice da dn dc) (fun _ => True) rfl rfl rfl rfl rfl trivial (.inl ⟨rfl, fun _ _ => d_move rfl ⟨rfl, rfl⟩⟩) ?_
        refine WD.take hok2 3 (.int .i64 j) (fun _ => True) rfl rfl rfl rfl rfl trivial (.inl ⟨rfl, fun _ _ => d_move rfl ⟨rfl, rfl⟩⟩) ?_
        refine WD.take hok2 4 (.int .i64 (j - 1)) (fun _ => True) rfl rfl rfl rfl rfl trivial (.inl ⟨rfl, fun _ _ => d_sub rfl rfl (by omega) (by omega) ⟨rfl, rfl⟩⟩) ?_
        refine WD.take hok2 5 (.slice da dn dc) (fun _ => True) rfl rfl rfl rfl rfl trivial (.inl ⟨rfl, fun _ _ => d_move rfl ⟨rfl, rfl⟩⟩) ?_
        refine WD.take hok2 6 (.int .i64 j) (fun _ => True) rfl rfl rfl rfl rfl trivial (.inl ⟨rfl, fun _ _ => d_move rfl ⟨rfl, rfl⟩⟩) ?_
        refine WD.take hok2 7 (.int .i64 (j - 1)) (fun _ => True) rfl rfl rfl rfl rfl trivial (.inl ⟨rfl, fun _ _ => d_sub rfl rfl (by omega) (by omega) ⟨rfl, rfl⟩⟩) ?_
        refine WD.take hok2 8 (elemPtr (.slice da dn dc) ((j - 1).toNat)) (fun w' => RdT (tyI .u8) w' (.slice da dn dc) zs) rfl rfl rfl rfl rfl (H5.rdT 0 rfl) (.inl ⟨rfl, fun _ hC => t_addr1 ((j - 1).toNat) (T := (tyI .u8)) rfl Try.underlying85 sz5 rfl rfl hC (by first | omega | (simp only [List.length_set]; omega)) (by first | omega | (simp only [List.length_set]; omega)) ⟨rfl, rfl⟩⟩) ?_
        refine WD.take hok2 9 (.int .u8 (zs.getD ((j - 1).toNat) 0)) (fun w' => RdT (tyI .u8) w' (.slice da dn dc) zs) rfl rfl rfl rfl rfl (H5.rdT 0 rfl) (.inl ⟨rfl, fun _ hC => t_load1 ((j - 1).toNat) 0 (T := (tyI .u8)) rfl Try.underlying5 rfl rfl hC (by first | omega | (simp only [List.length_set]; omega)) rfl ⟨rfl, rfl⟩⟩) ?_
        refine WD.take hok2 10 (.slice da dn dc) (fun _ => True) rfl rfl rfl rfl rfl trivial (.inl ⟨rfl, fun _ _ => d_move rfl ⟨rfl, rfl⟩⟩) ?_
        refine WD.take hok2 11 (.int .i64 j) (fun _ => True) rfl rfl rfl rfl rfl trivial (.inl ⟨rfl, fun _ _ => d_move rfl ⟨rfl, rfl⟩⟩) ?_
        refine WD.take hok2 12 (elemPtr (.slice da dn dc) j.toNat) (fun w' => RdT (tyI .u8) w' (.slice da dn dc) zs) rfl rfl rfl rfl rfl (H5.rdT 0 rfl) (.inl ⟨rfl, fun _ hC => t_addr1 j.toNat (T := (tyI .u8)) rfl Try.underlying85 sz5 rfl rfl hC (by first | omega | (simp only [List.length_set]; omega)) (by first | omega | (simp only [List.length_set]; omega)) ⟨rfl, rfl⟩⟩) ?_
        refine WD.take hok2 13 (.int .u8 (zs.getD j.toNat 0)) (fun w' => RdT (tyI .u8) w' (.slice da dn dc) zs) rfl rfl rfl rfl rfl (H5.rdT 0 rfl) (.inl ⟨rfl, fun _ hC => t_load1 j.toNat 0 (T := (tyI .u8)) rfl Try.underlying5 rfl rfl hC (by first | omega | (simp only [List.length_set]; omega)) rfl ⟨rfl, rfl⟩⟩) ?_
        refine WD.take hok2 14 (elemPtr (.slice da dn dc) j.toNat) (fun w' => RdT (tyI .u8) w' (.slice da dn dc) zs) rfl rfl rfl rfl rfl (H5.rdT 0 rfl) (.inl ⟨rfl, fun _ hC => t_addr1 j.toNat (T := (tyI .u8)) rfl Try.underlying85 sz5 rfl rfl hC (by first | omega | (simp only [List.length_set]; omega)) (by first | omega | (simp only [List.length_set]; omega)) ⟨rfl, rfl⟩⟩) ?_
        refine WD.loud hok2 15 rfl (⟨_, [⟨4, .int .i64 (j - 1), (fun _ => True)⟩, ⟨3, .int .i64 j, (fun _ => True)⟩, ⟨2, .slice da dn dc, (fun _ => True)⟩], rfl, rfl, rfl, rfl, rfl, rfl, t_store1 j.toNat (zs.getD ((j - 1).toNat) 0) (T := (tyI .u8)) (e := 5) rfl sz5 rfl rfl rfl (H5.ownT 0 rfl) (by first | omega | (simp only [List.length_set]; omega)) fun w6 u2 => ?_⟩)
        have H6 : UpG w [rowT (tyI .u8) (.slice da dn dc) 5 xs] w6 [[rowT (tyI .u8) (.slice da dn dc) 5 (zs.set j.toNat (zs.getD ((j - 1).toNat) 0))]] := H5.on 0 rfl u2
        refine ⟨⟨trivial, trivial, trivial, trivial⟩, ?_⟩
        refine WD.take hok2 16 (elemPtr (.slice da dn dc) ((j - 1).toNat)) (fun w' => RdT (tyI .u8) w' (.slice da dn dc) (zs.set j.toNat (zs.getD ((j - 1).toNat) 0))) rfl rfl rfl rfl rfl (H6.rdT 0 rfl) (.inl ⟨rfl, fun _ hC => t_addr1 ((j - 1).toNat) (T := (tyI .u8)) rfl Try.underlying85 sz5 rfl rfl hC (by first | omega | (simp only [List.length_set]; omega)) (by first | omega | (simp only [List.length_set]; omega)) ⟨rfl, rfl⟩⟩) ?_
        refine WD.loud hok2 17 rfl (⟨_, [], rfl, rfl, rfl, rfl, rfl, rfl, t_store1 ((j - 1).toNat) (zs.getD j.toNat 0) (T := (tyI .u8)) (e := 5) rfl sz5 rfl rfl rfl (H6.ownT 0 rfl) (by first | omega | (simp only [List.length_set]; omega)) fun w7 u3 => ?_⟩)
        have H7 : UpG w [rowT (tyI .u8) (.slice da dn dc) 5 xs] w7 [[rowT (tyI .u8) (.slice da dn dc) 5 ((zs.set j.toNat (zs.getD ((j - 1).toNat) 0)).set ((j - 1).toNat) (zs.getD j.toNat 0))]] := H6.on 0 rfl u3
        refine ⟨trivial, ?_⟩
        refine WD.done hok2 rfl (X.block_normal (X.then_code ?_))
        refine W.pick [29, 28, 27, 26, 25, 24, 23, 22, 21, 20, 7, 6, 0, 1, 2] (Γ' := [(29, .bool (decide ((zs.getD j.toNat 0) < (zs.getD ((j - 1).toNat) 0)))), (28, .int .u8 (zs.getD ((j - 1).toNat) 0)), (27, elemPtr (.slice da dn dc) ((j - 1).toNat)), (26, .int .i64 (j - 1)), (25, .int .i64 j), (24, .slice da dn dc), (23, .int .u8 (zs.getD j.toNat 0)), (22, elemPtr (.slice da dn dc) j.toNat), (21, .int .i64 j), (20, .slice da dn dc), (7, .int .i64 j), (6, .int .i64 ((i : Nat) : Int)), (0, .slice da dn dc), (1, .int .i64 ((a : Nat) : Int)), (2, .int .i64 ((b : Nat) : Int))]) rfl ?_
        refine W.region ?_
        refine WL.op rfl (d_move rfl ?_)
        refine WL.op rfl (d_sub rfl rfl (by omega) (by omega) ?_)
        refine WL.op rfl (d_assign rfl ?_)
        refine WL.done ?_
        exact X.next [7, 6, 0, 1, 2] (Γ' := [(7, .int .i64 (j - 1)), (6, .int .i64 ((i : Nat) : Int)), (0, .slice da dn dc), (1, .int .i64 ((a : Nat) : Int)), (2, .int .i64 ((b : Nat) : Int))]) rfl ((j - 1).toNat) (by omega) ⟨j - 1, (zs.set j.toNat (zs.getD ((j - 1).toNat) 0)).set ((j - 1).toNat) (zs.getD j.toNat 0), rfl, H7, (by omega), (by exact (sw_len _ _ _).trans hzzs), (by exact hZ.trans (ins_go (by omega) c14)), rfl⟩
      · skip
        refine W.exit (X.then_exit (X.then_exit (X.block_exit (X.block_normal (X.then_code ?_)))))
        refine W.region ?_
        refine WL.op rfl (d_move rfl ?_)
        refine WL.op rfl (d_add rfl rfl (by omega) (by omega) ?_)
        refine WL.op rfl (d_assign rfl ?_)
        refine WL.done ?_
        exact X.next [6, 0, 1, 2] (Γ' := [(6, .int .i64 (((i + 1) : Nat) : Int)), (0, .slice da dn dc), (1, .int .i64 ((a : Nat) : Int)), (2, .int .i64 ((b : Nat) : Int))]) rfl (b - (i + 1)) (by omega) ⟨i + 1, zs, rfl, H4, (by omega), (by omega), (by first | exact (insO_go (by omega) (hZ.trans (ins_stop (by omega) (fun h => absurd h.1 (by omega))))).symm.trans hI | exact (insO_go (by omega) (hZ.trans (ins_stop (by omega) (fun h => c14 h.2)))).symm.trans hI), rfl⟩
    · skip
      refine WD.take hok1 4 undef (fun _ => True) rfl rfl rfl rfl rfl trivial (.inr ⟨rfl, rfl⟩) ?_
      refine WD.take hok1 5 undef (fun _ => True) rfl rfl rfl rfl rfl trivial (.inr ⟨rfl, rfl⟩) ?_
      refine WD.take hok1 6 undef (fun _ => True) rfl rfl rfl rfl rfl trivial (.inr ⟨rfl, rfl⟩) ?_
      refine WD.take hok1 7 undef (fun _ => True) rfl rfl rfl rfl rfl trivial (.inr ⟨rfl, rfl⟩) ?_
      refine WD.take hok1 8 undef (fun _ => True) rfl rfl rfl rfl rfl trivial (.inr ⟨rfl, rfl⟩) ?_
      refine WD.take hok1 9 undef (fun _ => True) rfl rfl rfl rfl rfl trivial (.inr ⟨rfl, rfl⟩) ?_
      refine WD.take hok1 10 undef (fun _ => True) rfl rfl rfl rfl rfl trivial (.inr ⟨rfl, rfl⟩) ?_
      refine WD.take hok1 11 undef (fun _ => True) rfl rfl rfl rfl rfl trivial (.inr ⟨rfl, rfl⟩) ?_
      refine WD.take hok1 12 undef (fun _ => True) rfl rfl rfl rfl rfl trivial (.inr ⟨rfl, rfl⟩) ?_
      refine WD.take hok1 13 undef (fun _ => True) rfl rfl rfl rfl rfl trivial (.inr ⟨rfl, rfl⟩) ?_
      refine WD.take hok1 14 (.bool false) (fun _ => True) rfl rfl rfl rfl rfl trivial (.inl ⟨rfl, fun _ _ => d_pick rfl rfl ⟨rfl, rfl⟩⟩) ?_
      refine WD.done hok1 rfl (X.then_code ?_)
      refine W.iff rfl ?_
      refine W.exit (X.then_exit (X.then_exit (X.block_exit (X.block_normal (X.then_code ?_)))))
      refine W.region ?_
      refine WL.op rfl (d_move rfl ?_)
      refine WL.op rfl (d_add rfl rfl (by omega) (by omega) ?_)
      refine WL.op rfl (d_assign rfl ?_)
      refine WL.done ?_
      exact X.next [6, 0, 1, 2] (Γ' := [(6, .int .i64 (((i + 1) : Nat) : Int)), (0, .slice da dn dc), (1, .int .i64 ((a : Nat) : Int)), (2, .int .i64 ((b : Nat) : Int))]) rfl (b - (i + 1)) (by omega) ⟨i + 1, zs, rfl, H3, (by omega), (by omega), (by first | exact (insO_go (by omega) (hZ.trans (ins_stop (by omega) (fun h => absurd h.1 (by omega))))).symm.trans hI | exact (insO_go (by omega) (hZ.trans (ins_stop (by omega) (fun h => c14 h.2)))).symm.trans hI), rfl⟩
  · skip
    refine W.exit (X.then_exit (X.then_exit (X.block_exit (X.end0 rfl ?_))))
    have e : (Go.Sort.insertionSort Go.Sort.ltInt xs.toArray a b).toList = ys := by rw [← hI, insO_end (by omega)]
    rw [e]
    exact ⟨rfl, (Upd.sel H1 (l := [0]) rfl rfl)⟩

set_option maxRecDepth 20000 in
theorem rev8_any (da : Option Addr) (xs : List Int) (dc : Nat) (dn : Nat) (aI : Int) (a : Nat) (bI : Int) (b : Nat) (w : World) (hp : Hp w [rowT (tyI .u8) (.slice da dn dc) 5 xs]) (e_a : aI = ((a : Nat) : Int)) (e_b : bI = ((b : Nat) : Int)) (hab : a < b ∧ b ≤ xs.length ∧ xs.length ≤ 1000000) :
    Calls Try.prog 122 #[.slice da dn dc, .int .i64 aI, .int .i64 bI] w (Ret fun v w' => v = .tuple #[] ∧ Upd w [rowT (tyI .u8) (.slice da dn dc) 5 xs] w' [rowT (tyI .u8) (.slice da dn dc) 5 ((Go.Sort.reverseRange xs.toArray a b).toList)]) := by
  subst e_a
  subst e_b
  have hn := (hp_rdT hp (List.mem_of_getElem? (i := 0) rfl)).len
  refine calls_of_W (args := [.slice da dn dc, .int .i64 ((a : Nat) : Int), .int .i64 ((b : Nat) : Int)]) Try.func122 rfl rfl rfl ?_
  have H0 : UpG w [rowT (tyI .u8) (.slice da dn dc) 5 xs] w [[rowT (tyI .u8) (.slice da dn dc) 5 xs]] := (UpG.refl hp).re rfl
  show W _ _ _ _ [(0, .slice da dn dc), (1, .int .i64 ((a : Nat) : Int)), (2, .int .i64 ((b : Nat) : Int))] w
  refine W.seq ?_
  refine W.region ?_
  refine WL.op rfl (d_move rfl ?_)
  refine WL.op rfl (d_assign rfl ?_)
  refine WL.done (X.then_code ?_)
  refine W.seq ?_
  refine W.region ?_
  refine WL.op rfl (d_move rfl ?_)
  refine WL.op rfl (d_sub rfl rfl (by omega) (by omega) ?_)
  refine WL.op rfl (d_assign rfl ?_)
  refine WL.done (X.then_code ?_)
  refine W.block ?_
  refine W.pick [7, 6, 0] (Γ' := [(7, .int .i64 (((b : Nat) : Int) - 1)), (6, .int .i64 ((a : Nat) : Int)), (0, .slice da dn dc)]) rfl ?_
  refine W.loop (fun m Γ' w' => ∃ i : Nat, ∃ j : Int, ∃ ys : List Int, Γ' = [(7, .int .i64 j), (6, .int .i64 ((i : Nat) : Int)), (0, .slice da dn dc)] ∧ UpG w [rowT (tyI .u8) (.slice da dn dc) 5 xs] w' [[rowT (tyI .u8) (.slice da dn dc) 5 ys]] ∧ (a ≤ i ∧ (i : Int) ≤ j + 1 ∧ j < (b : Int)) ∧ (ys.length = xs.length) ∧ (Go.Sort.reverseLoop i j.toNat ys.toArray = Go.Sort.reverseRange xs.toArray a b) ∧ m = (j + 1).toNat) (((((b : Nat) : Int) - 1) + 1).toNat) ⟨a, ((b : Nat) : Int) - 1, xs, rfl, H0, (by omega), (by rfl), (by rw [show ((b : Int) - 1).toNat = b - 1 by omega]; rfl), rfl⟩ ?_
  rintro m1 Γ1 w1 ⟨i, j, ys, rfl, H1, hj, hzys, hI, rfl⟩
  refine W.seq ?_
  refine W.seq ?_
  refine W.region ?_
  refine WL.op rfl (d_move rfl ?_)
  refine WL.op rfl (d_move rfl ?_)
  refine WL.op rfl (d_cmp (decide (((i : Nat) : Int) < j)) rfl rfl rfl ?_)
  refine WL.done (X.then_code ?_)
  refine W.ite (p := ((i : Nat) : Int) < j) rfl (fun c324 => ?_) (fun c324 => ?_)
  · skip
    refine W.skip (X.then_code ?_)
    refine W.block ?_
    refine W.seq ?_
    refine W.regionD mixed (by kernel_rfl) fun hok1 w2 k1 => ?_
    have H2 : UpG w [rowT (tyI .u8) (.slice da dn dc) 5 xs] w2 [[rowT (tyI .u8) (.slice da dn dc) 5 ys]] := H1.kept k1
    refine WD.take hok1 0 (.slice da dn dc) (fun _ => True) rfl rfl rfl rfl rfl trivial (.inl ⟨rfl, fun _ _ => d_move rfl ⟨rfl, rfl⟩⟩) ?_
    refine WD.take hok1 1 (.int .i64 ((i : Nat) : Int)) (fun _ => True) rfl rfl rfl rfl rfl trivial (.inl ⟨rfl, fun _ _ => d_move rfl ⟨rfl, rfl⟩⟩) ?_
    refine WD.take hok1 2 (.slice da dn dc) (fun _ => True) rfl rfl rfl rfl rfl trivial (.inl ⟨rfl, fun _ _ => d_move rfl ⟨rfl, rfl⟩⟩) ?_
    refine WD.take hok1 3 (.int .i64 j) (fun _ => True) rfl rfl rfl rfl rfl trivial (.inl ⟨rfl, fun _ _ => d_move rfl ⟨rfl, rfl⟩⟩) ?_
    refine WD.take hok1 4 (.slice da dn dc) (fun _ => True) rfl rfl rfl rfl rfl trivial (.inl ⟨rfl, fun _ _ => d_move rfl ⟨rfl, rfl⟩⟩) ?_
    refine WD.take hok1 5 (.int .i64 j) (fun _ => True) rfl rfl rfl rfl rfl trivial (.inl ⟨rfl, fun _ _ => d_move rfl ⟨rfl, rfl⟩⟩) ?_
    refine WD.take hok1 6 (elemPtr (.slice da dn dc) j.toNat) (fun w' => RdT (tyI .u8) w' (.slice da dn dc) ys) rfl rfl rfl rfl rfl (H2.rdT 0 rfl) (.inl ⟨rfl, fun _ hC => t_addr1 j.toNat (T := (tyI .u8)) rfl Try.underlying85 sz5 rfl rfl hC (by first | omega | (simp only [List.length_set]; omega)) (by first | omega | (simp only [List.length_set]; omega)) ⟨rfl, rfl⟩⟩) ?_
    refine WD.take hok1 7 (.int .u8 (ys.getD j.toNat 0)) (fun w' => RdT (tyI .u8) w' (.slice da dn dc) ys) rfl rfl rfl rfl rfl (H2.rdT 0 rfl) (.inl ⟨rfl, fun _ hC => t_load1 j.toNat 0 (T := (tyI .u8)) rfl Try.underlying5 rfl rfl hC (by first | omega | (simp only [List.length_set]; omega)) rfl ⟨rfl, rfl⟩⟩) ?_
    refine WD.take hok1 8 (.slice da dn dc) (fun _ => True) rfl rfl rfl rfl rfl trivial (.inl ⟨rfl, fun _ _ => d_move rfl ⟨rfl, rfl⟩⟩) ?_
    refine WD.take hok1 9 (.int .i64 ((i : Nat) : Int)) (fun _ => True) rfl rfl rfl rfl rfl trivial (.inl ⟨rfl, fun _ _ => d_move rfl ⟨rfl, rfl⟩⟩) ?_
    refine WD.take hok1 10 (elemPtr (.slice da dn dc) i) (fun w' => RdT (tyI .u8) w' (.slice da dn dc) ys) rfl rfl rfl rfl rfl (H2.rdT 0 rfl) (.inl ⟨rfl, fun _ hC => t_addr1 i (T := (tyI .u8)) rfl Try.underlying85 sz5 rfl rfl hC rfl (by first | omega | (simp only [List.length_set]; omega)) ⟨rfl, rfl⟩⟩) ?_
    refine WD.take hok1 11 (.int .u8 (ys.getD i 0)) (fun w' => RdT (tyI .u8) w' (.slice da dn dc) ys) rfl rfl rfl rfl rfl (H2.rdT 0 rfl) (.inl ⟨rfl, fun _ hC => t_load1 i 0 (T := (tyI .u8)) rfl Try.underlying5 rfl rfl hC (by first | omega | (simp only [List.length_set]; omega)) rfl ⟨rfl, rfl⟩⟩) ?_
    refine WD.take hok1 12 (elemPtr (.slice da dn dc) i) (fun w' => RdT (tyI .u8) w' (.slice da dn dc) ys) rfl rfl rfl rfl rfl (H2.rdT 0 rfl) (.inl ⟨rfl, fun _ hC => t_addr1 i (T := (tyI .u8)) rfl Try.underlying85 sz5 rfl rfl hC rfl (by first | omega | (simp only [List.length_set]; omega)) ⟨rfl, rfl⟩⟩) ?_
    refine WD.loud hok1 13 rfl (⟨_, [⟨3, .int .i64 j, (fun _ => True)⟩, ⟨2, .slice da dn dc, (fun _ => True)⟩], rfl, rfl, rfl, rfl, rfl, rfl, t_store1 i (ys.getD j.toNat 0) (T := (tyI .u8)) (e := 5) rfl sz5 rfl rfl rfl (H2.ownT 0 rfl) (by first | omega | (simp only [List.length_set]; omega)) fun w3 u1 => ?_⟩)
    have H3 : UpG w [rowT (tyI .u8) (.slice da dn dc) 5 xs] w3 [[rowT (tyI .u8) (.slice da dn dc) 5 (ys.set i (ys.getD j.toNat 0))]] := H2.on 0 rfl u1
    refine ⟨⟨trivial, trivial, trivial⟩, ?_⟩
    refine WD.take hok1 14 (elemPtr (.slice da dn dc) j.toNat) (fun w' => RdT (tyI .u8) w' (.slice da dn dc) (ys.set i (ys.getD j.toNat 0))) rfl rfl rfl rfl rfl (H3.rdT 0 rfl) (.inl ⟨rfl, fun _ hC => t_addr1 j.toNat (T := (tyI .u8)) rfl Try.underlying85 sz5 rfl rfl hC (by first | omega | (simp only [List.length_set]; omega)) (by first | omega | (simp only [List.length_set]; omega)) ⟨rfl, rfl⟩⟩) ?_
    refine WD.loud hok1 15 rfl (⟨_, [], rfl, rfl, rfl, rfl, rfl, rfl, t_store1 j.toNat (ys.getD i 0) (T := (tyI .u8)) (e := 5) rfl sz5 rfl rfl rfl (H3.ownT 0 rfl) (by first | omega | (simp only [List.length_set]; omega)) fun w4 u2 => ?_⟩)
    have H4 : UpG w [rowT (tyI .u8) (.slice da dn dc) 5 xs] w4 [[rowT (tyI .u8) (.slice da dn dc) 5 ((ys.set i (ys.getD j.toNat 0)).set j.toNat (ys.getD i 0))]] := H3.on 0 rfl u2
    refine ⟨trivial, ?_⟩
    refine WD.done hok1 rfl (X.then_code ?_)
    refine W.seq ?_
    refine W.region ?_
    refine WL.op rfl (d_move rfl ?_)
    refine WL.op rfl (d_add rfl rfl (by omega) (by omega) ?_)
    refine WL.op rfl (d_assign rfl ?_)
    refine WL.done (X.then_code ?_)
    refine W.region ?_
    refine WL.op rfl (d_move rfl ?_)
    refine WL.op rfl (d_sub rfl rfl (by omega) (by omega) ?_)
    refine WL.op rfl (d_assign rfl ?_)
    refine WL.done (X.block_normal ?_)
    exact X.next [7, 6, 0] (Γ' := [(7, .int .i64 (j - 1)), (6, .int .i64 (((i + 1) : Nat) : Int)), (0, .slice da dn dc)]) rfl (((j - 1) + 1).toNat) (by omega) ⟨i + 1, j - 1, (ys.set i (ys.getD j.toNat 0)).set j.toNat (ys.getD i 0), rfl, H4, (by omega), (by exact (sw_len _ _ _).trans hzys), (by exact (rv_go (by omega)).symm.trans hI), rfl⟩
  · skip
    refine W.exit (X.then_exit (X.then_exit (X.block_exit (X.end0 rfl ?_))))
    have e : (Go.Sort.reverseRange xs.toArray a b).toList = ys := by rw [← hI, rv_end (by omega)]
    rw [e]
    exact ⟨rfl, (Upd.sel H1 (l := [0]) rfl rfl)⟩

set_option maxRecDepth 20000 in
theorem sift8_any (da : Option Addr) (xs : List Int) (dc : Nat) (dn : Nat) (loI : Int) (lo : Nat) (hiI : Int) (hi : Nat) (firstI : Int) (first : Nat) (w : World) (hp : Hp w [rowT (tyI .u8) (.slice da dn dc) 5 xs]) (e_lo : loI = ((lo : Nat) : Int)) (e_hi : hiI = ((hi : Nat) : Int)) (e_first : firstI = ((first : Nat) : Int)) (hab : first + hi ≤ xs.length ∧ xs.length ≤ 1000000 ∧ lo ≤ 1000000) :
    Calls Try.prog 133 #[.slice da dn dc, .int .i64 loI, .int .i64 hiI, .int .i64 firstI] w (Ret fun v w' => v = .tuple #[] ∧ Upd w [rowT (tyI .u8) (.slice da dn dc) 5 xs] w' [rowT (tyI .u8) (.slice da dn dc) 5 ((Go.Sort.siftDown Go.Sort.ltInt hi first lo xs.toArray).toList)]) := by
  subst e_lo
  subst e_hi
  subst e_first
  have hn := (hp_rdT hp (List.mem_of_getElem? (i := 0) rfl)).len
  refine calls_of_W (args := [.slice da dn dc, .int .i64 ((lo : Nat) : Int), .int .i64 ((hi : Nat) : Int), .int .i64 ((first : Nat) : Int)]) Try.func133 rfl rfl rfl ?_
  have H0 : UpG w [rowT (tyI .u8) (.slice da dn dc) 5 xs] w [[rowT (tyI .u8) (.slice da dn dc) 5 xs]] := (UpG.refl hp).re rfl
  show W _ _ _ _ [(0, .slice da dn dc), (1, .int .i64 ((lo : Nat) : Int)), (2, .int .i64 ((hi : Nat) : Int)), (3, .int .i64 ((first : Nat) : Int))] w
  refine W.seq ?_
  refine W.region ?_
  refine WL.op rfl (d_move rfl ?_)
  refine WL.op rfl (d_assign rfl ?_)
  refine WL.done (X.then_code ?_)
  refine W.block ?_
  refine W.pick [8, 0, 2, 3] (Γ' := [(8, .int .i64 ((lo : Nat) : Int)), (0, .slice da dn dc), (2, .int .i64 ((hi : Nat) : Int)), (3, .int .i64 ((first : Nat) : Int))]) rfl ?_
  refine W.loop (fun m Γ' w' => ∃ root : Nat, ∃ ys : List Int, Γ' = [(8, .int .i64 ((root : Nat) : Int)), (0, .slice da dn dc), (2, .int .i64 ((hi : Nat) : Int)), (3, .int .i64 ((first : Nat) : Int))] ∧ UpG w [rowT (tyI .u8) (.slice da dn dc) 5 xs] w' [[rowT (tyI .u8) (.slice da dn dc) 5 ys]] ∧ (root ≤ 1000000) ∧ (ys.length = xs.length) ∧ (Go.Sort.siftDown Go.Sort.ltInt hi first root ys.toArray = Go.Sort.siftDown Go.Sort.ltInt hi first lo xs.toArray) ∧ m = 2000001 - root) (2000001 - lo) ⟨lo, xs, rfl, H0, (by omega), (by rfl), (by rfl), rfl⟩ ?_
  rintro m1 Γ1 w1 ⟨root, ys, rfl, H1, hrt, hzys, hI, rfl⟩
  refine W.block ?_
  refine W.seq ?_
  refine W.region ?_
  refine WL.op rfl (d_move rfl ?_)
  refine WL.op rfl (d_mul rfl rfl (by omega) (by omega) ?_)
  refine WL.op rfl (d_add rfl rfl (by omega) (by omega) ?_)
  refine WL.op rfl (d_assign rfl ?_)
  refine WL.done (X.then_code ?_)
  refine W.seq ?_
  refine W.seq ?_
  refine W.region ?_
  refine WL.op rfl (d_move rfl ?_)
  refine WL.op rfl (d_move rfl ?_)
  refine WL.op rfl (d_cmp (decide (((2 * ((root : Nat) : Int)) + 1) ≥ ((hi : Nat) : Int))) rfl rfl rfl ?_)
  refine WL.done (X.then_code ?_)
  refine W.ite (p := ((2 * ((root : Nat) : Int)) + 1) ≥ ((hi : Nat) : Int)) rfl (fun c26 => ?_) (fun c26 => ?_)
  · skip
    refine W.exit (X.then_exit (X.block_exit' rfl (X.then_exit (X.block_exit (X.end0 rfl ?_)))))
    have e : (Go.Sort.siftDown Go.Sort.ltInt hi first lo xs.toArray).toList = ys := by first | (rw [← hI, sift_end (by omega)]) | (rw [← hI, siftR_end (by omega) (by omega) c29 c32]) | (rw [← hI, siftL_end (by omega) (fun h => absurd h.1 (by omega)) c32]) | (rw [← hI, siftL_end (by omega) (fun h => c29 h.2) c32])
    rw [e]
    exact ⟨rfl, (Upd.sel H1 (l := [0]) rfl rfl)⟩
  · skip
    refine W.skip (X.then_code ?_)
    refine W.seq ?_
    refine W.seq ?_
    refine W.regionD mixed (by kernel_rfl) fun hok1 w2 k1 => ?_
    have H2 : UpG w [rowT (tyI .u8) (.slice da dn dc) 5 xs] w2 [[rowT (tyI .u8) (.slice da dn dc) 5 ys]] := H1.kept k1
    refine WD.take hok1 0 (.int .i64 ((2 * ((root : Nat) : Int)) + 1)) (fun _ => True) rfl rfl rfl rfl rfl trivial (.inl ⟨rfl, fun _ _ => d_move rfl ⟨rfl, rfl⟩⟩) ?_
    refine WD.take hok1 1 (.int .i64 (((2 * ((root : Nat) : Int)) + 1) + 1)) (fun _ => True) rfl rfl rfl rfl rfl trivial (.inl ⟨rfl, fun _ _ => d_add rfl rfl (by omega) (by omega) ⟨rfl, rfl⟩⟩) ?_
    refine WD.take hok1 2 (.int .i64 ((hi : Nat) : Int)) (fun _ => True) rfl rfl rfl rfl rfl trivial (.inl ⟨rfl, fun _ _ => d_move rfl ⟨rfl, rfl⟩⟩) ?_
    refine WD.take hok1 3 (.bool (decide ((((2 * ((root : Nat) : Int)) + 1) + 1) < ((hi : Nat) : Int)))) (fun _ => True) rfl rfl rfl rfl rfl trivial (.inl ⟨rfl, fun _ _ => d_cmp (decide ((((2 * ((root : Nat) : Int)) + 1) + 1) < ((hi : Nat) : Int))) rfl rfl rfl ⟨rfl, rfl⟩⟩) ?_
    refine WD.take hok1 4 (.bool (decide ((((2 * ((root : Nat) : Int)) + 1) + 1) < ((hi : Nat) : Int)))) (fun _ => True) rfl rfl rfl rfl rfl trivial (.inl ⟨rfl, fun _ _ => d_move rfl ⟨rfl, rfl⟩⟩) ?_
    refine WD.part 21 (p := (((2 * ((root : Nat) : Int)) + 1) + 1) < ((hi : Nat) : Int)) rfl (fun g29 => ?_) (fun g29 => ?_)
    · skip
      refine WD.take hok1 5 (.slice da dn dc) (fun _ => True) rfl rfl rfl rfl rfl trivial (.inl ⟨rfl, fun _ _ => d_move rfl ⟨rfl, rfl⟩⟩) ?_
      refine WD.take hok1 6 (.int .i64 ((first : Nat) : Int)) (fun _ => True) rfl rfl rfl rfl rfl trivial (.inl ⟨rfl, fun _ _ => d_move rfl ⟨rfl, rfl⟩⟩) ?_
      refine WD.take hok1 7 (.int .i64 ((2 * ((root : Nat) : Int)) + 1)) (fun _ => True) rfl rfl rfl rfl rfl trivial (.inl ⟨rfl, fun _ _ => d_move rfl ⟨rfl, rfl⟩⟩) ?_
      refine WD.take hok1 8 (.int .i64 (((first : Nat) : Int) + ((2 * ((root : Nat) : Int)) + 1))) (fun _ => True) rfl rfl rfl rfl rfl trivial (.inl ⟨rfl, fun _ _ => d_add rfl rfl (by omega) (by omega) ⟨rfl, rfl⟩⟩) ?_
      refine WD.take hok1 9 (elemPtr (.slice da dn dc) (first + ((2 * root) + 1))) (fun w' => RdT (tyI .u8) w' (.slice da dn dc) ys) rfl rfl rfl rfl rfl (H2.rdT 0 rfl) (.inl ⟨rfl, fun _ hC => t_addr1 (first + ((2 * root) + 1)) (T := (tyI .u8)) rfl Try.underlying85 sz5 rfl rfl hC rfl (by omega) ⟨rfl, rfl⟩⟩) ?_
      refine WD.take hok1 10 (.int .u8 (ys.getD (first + ((2 * root) + 1)) 0)) (fun w' => RdT (tyI .u8) w' (.slice da dn dc) ys) rfl rfl rfl rfl rfl (H2.rdT 0 rfl) (.inl ⟨rfl, fun _ hC => t_load1 (first + ((2 * root) + 1)) 0 (T := (tyI .u8)) rfl Try.underlying5 rfl rfl hC (by omega) rfl ⟨rfl, rfl⟩⟩) ?_
      refine WD.take hok1 11 (.slice da dn dc) (fun _ => True) rfl rfl rfl rfl rfl trivial (.inl ⟨rfl, fun _ _ => d_move rfl ⟨rfl, rfl⟩⟩) ?_
      refine WD.take hok1 12 (.int .i64 ((first : Nat) : Int)) (fun _ => True) rfl rfl rfl rfl rfl trivial (.inl ⟨rfl, fun _ _ => d_move rfl ⟨rfl, rfl⟩⟩) ?_
      refine WD.take hok1 13 (.int .i64 ((2 * ((root : Nat) : Int)) + 1)) (fun _ => True) rfl rfl rfl rfl rfl trivial (.inl ⟨rfl, fun _ _ => d_move rfl ⟨rfl, rfl⟩⟩) ?_
      refine WD.take hok1 14 (.int .i64 (((first : Nat) : Int) + ((2 * ((root : Nat) : Int)) + 1))) (fun _ => True) rfl rfl rfl rfl rfl trivial (.inl ⟨rfl, fun _ _ => d_add rfl rfl (by omega) (by omega) ⟨rfl, rfl⟩⟩) ?_
      refine WD.take hok1 15 (.int .i64 ((((first : Nat) : Int) + ((2 * ((root : Nat) : Int)) + 1)) + 1)) (fun _ => True) rfl rfl rfl rfl rfl trivial (.inl ⟨rfl, fun _ _ => d_add rfl rfl (by omega) (by omega) ⟨rfl, rfl⟩⟩) ?_
      refine WD.take hok1 16 (elemPtr (.slice da dn dc) ((first + ((2 * root) + 1)) + 1)) (fun w' => RdT (tyI .u8) w' (.slice da dn dc) ys) rfl rfl rfl rfl rfl (H2.rdT 0 rfl) (.inl ⟨rfl, fun _ hC => t_addr1 ((first + ((2 * root) + 1)) + 1) (T := (tyI .u8)) rfl Try.underlying85 sz5 rfl rfl hC rfl (by omega) ⟨rfl, rfl⟩⟩) ?_
      refine WD.take hok1 17 (.int .u8 (ys.getD ((first + ((2 * root) + 1)) + 1) 0)) (fun w' => RdT (tyI .u8) w' (.slice da dn dc) ys) rfl rfl rfl rfl rfl (H2.rdT 0 rfl) (.inl ⟨rfl, fun _ hC => t_load1 ((first + ((2 * root) + 1)) + 1) 0 (T := (tyI .u8)) rfl Try.underlying5 rfl rfl hC (by omega) rfl ⟨rfl, rfl⟩⟩) ?_
      refine WD.loud hok1 18 rfl (⟨_, [], rfl, rfl, rfl, rfl, rfl, rfl, d_call ok124 rfl (Ret.calls (less8_any (ys.getD (first + ((2 * root) + 1)) 0) (ys.getD ((first + ((2 * root) + 1)) + 1) 0) w2  ) fun _ w3 p1 => ?_)⟩)
      obtain ⟨rfl, u1⟩ := p1
      have H3 : UpG w [rowT (tyI .u8) (.slice da dn dc) 5 xs] w3 [[rowT (tyI .u8) (.slice da dn dc) 5 ys]] := H2.call u1
      refine ⟨trivial, ?_⟩
      refine WD.take hok1 19 (.bool (decide ((ys.getD (first + ((2 * root) + 1)) 0) < (ys.getD ((first + ((2 * root) + 1)) + 1) 0)))) (fun _ => True) rfl rfl rfl rfl rfl trivial (.inl ⟨rfl, fun _ _ => d_pick rfl rfl ⟨rfl, rfl⟩⟩) ?_
      refine WD.done hok1 rfl (X.then_code ?_)
      refine W.pick [36, 35, 34, 33, 32, 31, 30, 29, 28, 27, 26, 25, 24, 23, 22, 9, 8, 0, 2, 3] (Γ' := [(36, .bool (decide ((ys.getD (first + ((2 * root) + 1)) 0) < (ys.getD ((first + ((2 * root) + 1)) + 1) 0)))), (35, .bool (decide ((ys.getD (first + ((2 * root) + 1)) 0) < (ys.getD ((first + ((2 * root) + 1)) + 1) 0)))), (34, .int .u8 (ys.getD ((first + ((2 * root) + 1)) + 1) 0)), (33, elemPtr (.slice da dn dc) ((first + ((2 * root) + 1)) + 1)), (32, .int .i64 ((((first : Nat) : Int) + ((2 * ((root : Nat) : Int)) + 1)) + 1)), (31, .int .i64 (((first : Nat) : Int) + ((2 * ((root : Nat) : Int)) + 1))), (30, .int .i64 ((2 * ((root : Nat) : Int)) + 1)), (29, .int .i64 ((first : Nat) : Int)), (28, .slice da dn dc), (27, .int .u8 (ys.getD (first + ((2 * root) + 1)) 0)), (26, elemPtr (.slice da dn dc) (first + ((2 * root) + 1))), (25, .int .i64 (((first : Nat) : Int) + ((2 * ((root : Nat) : Int)) + 1))), (24, .int .i64 ((2 * ((root : Nat) : Int)) + 1)), (23, .int .i64 ((first : Nat) : Int)), (22, .slice da dn dc), (9, .int .i64 ((2 * ((root : Nat) : Int)) + 1)), (8, .int .i64 ((root : Nat) : Int)), (0, .slice da dn dc), (2, .int .i64 ((hi : Nat) : Int)), (3, .int .i64 ((first : Nat) : Int))]) rfl ?_
      refine W.ite (p := (ys.getD (first + ((2 * root) + 1)) 0) < (ys.getD ((first + ((2 * root) + 1)) + 1) 0)) rfl (fun c29 => ?_) (fun c29 => ?_)
      · skip
        refine W.region ?_
        refine WL.op rfl (d_move rfl ?_)
        refine WL.op rfl (d_add rfl rfl (by omega) (by omega) ?_)
        refine WL.op rfl (d_assign rfl ?_)
        refine WL.done (X.then_code ?_)
        refine W.seq ?_
        refine W.seq ?_
        refine W.regionD mixed (by kernel_rfl) fun hok2 w4 k2 => ?_
        have H4 : UpG w [rowT (tyI .u8) (.slice da dn dc) 5 xs] w4 [[rowT (tyI .u8) (.slice da dn dc) 5 ys]] := H3.kept k2
        refine WD.take hok2 0 (.slice da dn dc) (fun _ => True) rfl rfl rfl rfl rfl trivial (.inl ⟨rfl, fun _ _ => d_move rfl ⟨rfl, rfl⟩⟩) ?_
        refine WD.take hok2 1 (.int .i64 ((first : Nat) : Int)) (fun _ => True) rfl rfl rfl rfl rfl trivial (.inl ⟨rfl, fun _ _ => d_move rfl ⟨rfl, rfl⟩⟩) ?_
        refine WD.take hok2 2 (.int .i64 ((root : Nat) : Int)) (fun _ => True) rfl rfl rfl rfl rfl trivial (.inl ⟨rfl, fun _ _ => d_move rfl ⟨rfl, rfl⟩⟩) ?_
        refine WD.take hok2 3 (.int .i64 (((first : Nat) : Int) + ((root : Nat) : Int))) (fun _ => True) rfl rfl rfl rfl rfl trivial (.inl ⟨rfl, fun _ _ => d_add rfl rfl (by omega) (by omega) ⟨rfl, rfl⟩⟩) ?_
        refine WD.take hok2 4 (elemPtr (.slice da dn dc) (first + root)) (fun w' => RdT (tyI .u8) w' (.slice da dn dc) ys) rfl rfl rfl rfl rfl (H4.rdT 0 rfl) (.inl ⟨rfl, fun _ hC => t_addr1 (first + root) (T := (tyI .u8)) rfl Try.underlying85 sz5 rfl rfl hC rfl (by omega) ⟨rfl, rfl⟩⟩) ?_
        refine WD.take hok2 5 (.int .u8 (ys.getD (first + root) 0)) (fun w' => RdT (tyI .u8) w' (.slice da dn dc) ys) rfl rfl rfl rfl rfl (H4.rdT 0 rfl) (.inl ⟨rfl, fun _ hC => t_load1 (first + root) 0 (T := (tyI .u8)) rfl Try.underlying5 rfl rfl hC (by omega) rfl ⟨rfl, rfl⟩⟩) ?_
        refine WD.take hok2 6 (.slice da dn dc) (fun _ => True) rfl rfl rfl rfl rfl trivial (.inl ⟨rfl, fun _ _ => d_move rfl ⟨rfl, rfl⟩⟩) ?_
        refine WD.take hok2 7 (.int .i64 ((first : Nat) : Int)) (fun _ => True) rfl rfl rfl rfl rfl trivial (.inl ⟨rfl, fun _ _ => d_move rfl ⟨rfl, rfl⟩⟩) ?_
        refine WD.take hok2 8 (.int .i64 (((2 * ((root : Nat) : Int)) + 1) + 1)) (fun _ => True) rfl rfl rfl rfl rfl trivial (.inl ⟨rfl, fun _ _ => d_move rfl ⟨rfl, rfl⟩⟩) ?_
        refine WD.take hok2 9 (.int .i64 (((first : Nat) : Int) + (((2 * ((root : Nat) : Int)) + 1) + 1))) (fun _ => True) rfl rfl rfl rfl rfl trivial (.inl ⟨rfl, fun _ _ => d_add rfl rfl (by omega) (by omega) ⟨rfl, rfl⟩⟩) ?_
        refine WD.take hok2 10 (elemPtr (.slice da dn dc) (first + (((2 * root) + 1) + 1))) (fun w' => RdT (tyI .u8) w' (.slice da dn dc) ys) rfl rfl rfl rfl rfl (H4.rdT 0 rfl) (.inl ⟨rfl, fun _ hC => t_addr1 (first + (((2 * root) + 1) + 1)) (T := (tyI .u8)) rfl Try.underlying85 sz5 rfl rfl hC rfl (by omega) ⟨rfl, rfl⟩⟩) ?_
        refine WD.take hok2 11 (.int .u8 (ys.getD (first + (((2 * root) + 1) + 1)) 0)) (fun w' => RdT (tyI .u8) w' (.slice da dn dc) ys) rfl rfl rfl rfl rfl (H4.rdT 0 rfl) (.inl ⟨rfl, fun _ hC => t_load1 (first + (((2 * root) + 1) + 1)) 0 (T := (tyI .u8)) rfl Try.underlying5 rfl rfl hC (by omega) rfl ⟨rfl, rfl⟩⟩) ?_
        refine WD.loud hok2 12 rfl (⟨_, [], rfl, rfl, rfl, rfl, rfl, rfl, d_call ok124 rfl (Ret.calls (less8_any (ys.getD (first + root) 0) (ys.getD (first + (((2 * root) + 1) + 1)) 0) w4  ) fun _ w5 p2 => ?_)⟩)
        obtain ⟨rfl, u2⟩ := p2
        have H5 : UpG w [rowT (tyI .u8) (.slice da dn dc) 5 xs] w5 [[rowT (tyI .u8) (.slice da dn dc) 5 ys]] := H4.call u2
        refine ⟨trivial, ?_⟩
        refine WD.take hok2 13 (.bool (decide (¬ ((ys.getD (first + root) 0) < (ys.getD (first + (((2 * root) + 1) + 1)) 0))))) (fun _ => True) rfl rfl rfl rfl rfl trivial (.inl ⟨rfl, fun _ _ => d_not (p := (ys.getD (first + root) 0) < (ys.getD (first + (((2 * root) + 1) + 1)) 0)) rfl ⟨rfl, rfl⟩⟩) ?_
        refine WD.done hok2 rfl (X.then_code ?_)
        refine W.pick [52, 9, 35, 34, 33, 32, 31, 30, 29, 28, 27, 26, 25, 24, 23, 22, 8, 0, 2, 3] (Γ' := [(52, .bool (decide (¬ ((ys.getD (first + root) 0) < (ys.getD (first + (((2 * root) + 1) + 1)) 0))))), (9, .int .i64 (((2 * ((root : Nat) : Int)) + 1) + 1)), (35, .bool (decide ((ys.getD (first + ((2 * root) + 1)) 0) < (ys.getD ((first + ((2 * root) + 1)) + 1) 0)))), (34, .int .u8 (ys.getD ((first + ((2 * root) + 1)) + 1) 0)), (33, elemPtr (.slice da dn dc) ((first + ((2 * root) + 1)) + 1)), (32, .int .i64 ((((first : Nat) : Int) + ((2 * ((root : Nat) : Int)) + 1)) + 1)), (31, .int .i64 (((first : Nat) : Int) + ((2 * ((root : Nat) : Int)) + 1))), (30, .int .i64 ((2 * ((root : Nat) : Int)) + 1)), (29, .int .i64 ((first : Nat) : Int)), (28, .slice da dn dc), (27, .int .u8 (ys.getD (first + ((2 * root) + 1)) 0)), (26, elemPtr (.slice da dn dc) (first + ((2 * root) + 1))), (25, .int .i64 (((first : Nat) : Int) + ((2 * ((root : Nat) : Int)) + 1))), (24, .int .i64 ((2 * ((root : Nat) : Int)) + 1)), (23, .int .i64 ((first : Nat) : Int)), (22, .slice da dn dc), (8, .int .i64 ((root : Nat) : Int)), (0, .slice da dn dc), (2, .int .i64 ((hi : Nat) : Int)), (3, .int .i64 ((first : Nat) : Int))]) rfl ?_
        refine W.ite (p := ¬ ((ys.getD (first + root) 0) < (ys.getD (first + (((2 * root) + 1) + 1)) 0))) rfl (fun c32 => ?_) (fun c32 => ?_)
        · skip
          refine W.ret (X.then_ret (X.block_ret (X.then_ret (X.block_ret (X.ret0 rfl ?_)))))
          have e : (Go.Sort.siftDown Go.Sort.ltInt hi first lo xs.toArray).toList = ys := by first | (rw [← hI, sift_end (by omega)]) | (rw [← hI, siftR_end (by omega) (by omega) c29 c32]) | (rw [← hI, siftL_end (by omega) (fun h => absurd h.1 (by omega)) c32]) | (rw [← hI, siftL_end (by omega) (fun h => c29 h.2) c32])
          rw [e]
          exact ⟨rfl, (Upd.sel H5 (l := [0]) rfl rfl)⟩
        · skip
          refine W.skip (X.then_code ?_)
          refine W.seq ?_
          refine W.regionD mixed (by kernel_rfl) fun hok3 w6 k3 => ?_
          have H6 : UpG w [rowT (tyI .u8) (.slice da dn dc) 5 xs] w6 [[rowT (tyI .u8) (.slice da dn dc) 5 ys]] := H5.kept k3
          refine WD.take hok3 0 (.slice da dn dc) (fun _ => True) rfl rfl rfl rfl rfl trivial (.inl ⟨rfl, fun _ _ => d_move rfl ⟨rfl, rfl⟩⟩) ?_
          refine WD.take hok3 1 (.int .i64 ((first : Nat) : Int)) (fun _ => True) rfl rfl rfl rfl rfl trivial (.inl ⟨rfl, fun _ _ => d_move rfl ⟨rfl, rfl⟩⟩) ?_
          refine WD.take hok3 2 (.int .i64 ((root : Nat) : Int)) (fun _ => True) rfl rfl rfl rfl rfl trivial (.inl ⟨rfl, fun _ _ => d_move rfl ⟨rfl, rfl⟩⟩) ?_
          refine WD.take hok3 3 (.int .i64 (((first : Nat) : Int) + ((root : Nat) : Int))) (fun _ => True) rfl rfl rfl rfl rfl trivial (.inl ⟨rfl, fun _ _ => d_add rfl rfl (by omega) (by omega) ⟨rfl, rfl⟩⟩) ?_
          refine WD.take hok3 4 (.slice da dn dc) (fun _ => True) rfl rfl rfl rfl rfl trivial (.inl ⟨rfl, fun _ _ => d_move rfl ⟨rfl, rfl⟩⟩) ?_
          refine WD.take hok3 5 (.int .i64 ((first : Nat) : Int)) (fun _ => True) rfl rfl rfl rfl rfl trivial (.inl ⟨rfl, fun _ _ => d_move rfl ⟨rfl, rfl⟩⟩) ?_
          refine WD.take hok3 6 (.int .i64 (((2 * ((root : Nat) : Int)) + 1) + 1)) (fun _ => True) rfl rfl rfl rfl rfl trivial (.inl ⟨rfl, fun _ _ => d_move rfl ⟨rfl, rfl⟩⟩) ?_
          refine WD.take hok3 7 (.int .i64 (((first : Nat) : Int) + (((2 * ((root : Nat) : Int)) + 1) + 1))) (fun _ => True) rfl rfl rfl rfl rfl trivial (.inl ⟨rfl, fun _ _ => d_add rfl rfl (by omega) (by omega) ⟨rfl, rfl⟩⟩) ?_
          refine WD.take hok3 8 (.slice da dn dc) (fun _ => True) rfl rfl rfl rfl rfl trivial (.inl ⟨rfl, fun _ _ => d_move rfl ⟨rfl, rfl⟩⟩) ?_
          refine WD.take hok3 9 (.int .i64 ((first : Nat) : Int)) (fun _ => True) rfl rfl rfl rfl rfl trivial (.inl ⟨rfl, fun _ _ => d_move rfl ⟨rfl, rfl⟩⟩) ?_
          refine WD.take hok3 10 (.int .i64 (((2 * ((root : Nat) : Int)) + 1) + 1)) (fun _ => True) rfl rfl rfl rfl rfl trivial (.inl ⟨rfl, fun _ _ => d_move rfl ⟨rfl, rfl⟩⟩) ?_
          refine WD.take hok3 11 (.int .i64 (((first : Nat) : Int) + (((2 * ((root : Nat) : Int)) + 1) + 1))) (fun _ => True) rfl rfl rfl rfl rfl trivial (.inl ⟨rfl, fun _ _ => d_add rfl rfl (by omega) (by omega) ⟨rfl, rfl⟩⟩) ?_
          refine WD.take hok3 12 (elemPtr (.slice da dn dc) (first + (((2 * root) + 1) + 1))) (fun w' => RdT (tyI .u8) w' (.slice da dn dc) ys) rfl rfl rfl rfl rfl (H6.rdT 0 rfl) (.inl ⟨rfl, fun _ hC => t_addr1 (first + (((2 * root) + 1) + 1)) (T := (tyI .u8)) rfl Try.underlying85 sz5 rfl rfl hC rfl (by first | omega | (simp only [List.length_set]; omega)) ⟨rfl, rfl⟩⟩) ?_
          refine WD.take hok3 13 (.int .u8 (ys.getD (first + (((2 * root) + 1) + 1)) 0)) (fun w' => RdT (tyI .u8) w' (.slice da dn dc) ys) rfl rfl rfl rfl rfl (H6.rdT 0 rfl) (.inl ⟨rfl, fun _ hC => t_load1 (first + (((2 * root) + 1) + 1)) 0 (T := (tyI .u8)) rfl Try.underlying5 rfl rfl hC (by first | omega | (simp only [List.length_set]; omega)) rfl ⟨rfl, rfl⟩⟩) ?_
          refine WD.take hok3 14 (.slice da dn dc) (fun _ => True) rfl rfl rfl rfl rfl trivial (.inl ⟨rfl, fun _ _ => d_move rfl ⟨rfl, rfl⟩⟩) ?_
          refine WD.take hok3 15 (.int .i64 ((first : Nat) : Int)) (fun _ => True) rfl rfl rfl rfl rfl trivial (.inl ⟨rfl, fun _ _ => d_move rfl ⟨rfl, rfl⟩⟩) ?_
          refine WD.take hok3 16 (.int .i64 ((root : Nat) : Int)) (fun _ => True) rfl rfl rfl rfl rfl trivial (.inl ⟨rfl, fun _ _ => d_move rfl ⟨rfl, rfl⟩⟩) ?_
          refine WD.take hok3 17 (.int .i64 (((first : Nat) : Int) + ((root : Nat) : Int))) (fun _ => True) rfl rfl rfl rfl rfl trivial (.inl ⟨rfl, fun _ _ => d_add rfl rfl (by omega) (by omega) ⟨rfl, rfl⟩⟩) ?_
          refine WD.take hok3 18 (elemPtr (.slice da dn dc) (first + root)) (fun w' => RdT (tyI .u8) w' (.slice da dn dc) ys) rfl rfl rfl rfl rfl (H6.rdT 0 rfl) (.inl ⟨rfl, fun _ hC => t_addr1 (first + root) (T := (tyI .u8)) rfl Try.underlying85 sz5 rfl rfl hC rfl (by first | omega | (simp only [List.length_set]; omega)) ⟨rfl, rfl⟩⟩) ?_
          refine WD.take hok3 19 (.int .u8 (ys.getD (first + root) 0)) (fun w' => RdT (tyI .u8) w' (.slice da dn dc) ys) rfl rfl rfl rfl rfl (H6.rdT 0 rfl) (.inl ⟨rfl, fun _ hC => t_load1 (first + root) 0 (T := (tyI .u8)) rfl Try.underlying5 rfl rfl hC (by first | omega | (simp only [List.length_set]; omega)) rfl ⟨rfl, rfl⟩⟩) ?_
          refine WD.take hok3 20 (elemPtr (.slice da dn dc) (first + root)) (fun w' => RdT (tyI .u8) w' (.slice da dn dc) ys) rfl rfl rfl rfl rfl (H6.rdT 0 rfl) (.inl ⟨rfl, fun _ hC => t_addr1 (first + root) (T := (tyI .u8)) rfl Try.underlying85 sz5 rfl rfl hC rfl (by first | omega | (simp only [List.length_set]; omega)) ⟨rfl, rfl⟩⟩) ?_
          refine WD.loud hok3 21 rfl (⟨_, [⟨7, .int .i64 (((first : Nat) : Int) + (((2 * ((root : Nat) : Int)) + 1) + 1)), (fun _ => True)⟩, ⟨6, .int .i64 (((2 * ((root : Nat) : Int)) + 1) + 1), (fun _ => True)⟩, ⟨5, .int .i64 ((first : Nat) : Int), (fun _ => True)⟩, ⟨4, .slice da dn dc, (fun _ => True)⟩], rfl, rfl, rfl, rfl, rfl, rfl, t_store1 (first + root) (ys.getD (first + (((2 * root) + 1) + 1)) 0) (T := (tyI .u8)) (e := 5) rfl sz5 rfl rfl rfl (H6.ownT 0 rfl) (by first | omega | (simp only [List.length_set]; omega)) fun w7 u3 => ?_⟩)
          have H7 : UpG w [rowT (tyI .u8) (.slice da dn dc) 5 xs] w7 [[rowT (tyI .u8) (.slice da dn dc) 5 (ys.set (first + root) (ys.getD (first + (((2 * root) + 1) + 1)) 0))]] := H6.on 0 rfl u3
          refine ⟨⟨trivial, trivial, trivial, trivial, trivial⟩, ?_⟩
          refine WD.take hok3 22 (elemPtr (.slice da dn dc) (first + (((2 * root) + 1) + 1))) (fun w' => RdT (tyI .u8) w' (.slice da dn dc) (ys.set (first + root) (ys.getD (first + (((2 * root) + 1) + 1)) 0))) rfl rfl rfl rfl rfl (H7.rdT 0 rfl) (.inl ⟨rfl, fun _ hC => t_addr1 (first + (((2 * root) + 1) + 1)) (T := (tyI .u8)) rfl Try.underlying85 sz5 rfl rfl hC rfl (by first | omega | (simp only [List.length_set]; omega)) ⟨rfl, rfl⟩⟩) ?_
          refine WD.loud hok3 23 rfl (⟨_, [], rfl, rfl, rfl, rfl, rfl, rfl, t_store1 (first + (((2 * root) + 1) + 1)) (ys.getD (first + root) 0) (T := (tyI .u8)) (e := 5) rfl sz5 rfl rfl rfl (H7.ownT 0 rfl) (by first | omega | (simp only [List.length_set]; omega)) fun w8 u4 => ?_⟩)
          have H8 : UpG w [rowT (tyI .u8) (.slice da dn dc) 5 xs] w8 [[rowT (tyI .u8) (.slice da dn dc) 5 ((ys.set (first + root) (ys.getD (first + (((2 * root) + 1) + 1)) 0)).set (first + (((2 * root) + 1) + 1)) (ys.getD (first + root) 0))]] := H7.on 0 rfl u4
          refine ⟨trivial, ?_⟩
          refine WD.done hok3 rfl (X.then_code ?_)
          refine W.pick [9, 35, 34, 33, 32, 31, 30, 29, 28, 27, 26, 25, 24, 23, 22, 0, 2, 3] (Γ' := [(9, .int .i64 (((2 * ((root : Nat) : Int)) + 1) + 1)), (35, .bool (decide ((ys.getD (first + ((2 * root) + 1)) 0) < (ys.getD ((first + ((2 * root) + 1)) + 1) 0)))), (34, .int .u8 (ys.getD ((first + ((2 * root) + 1)) + 1) 0)), (33, elemPtr (.slice da dn dc) ((first + ((2 * root) + 1)) + 1)), (32, .int .i64 ((((first : Nat) : Int) + ((2 * ((root : Nat) : Int)) + 1)) + 1)), (31, .int .i64 (((first : Nat) : Int) + ((2 * ((root : Nat) : Int)) + 1))), (30, .int .i64 ((2 * ((root : Nat) : Int)) + 1)), (29, .int .i64 ((first : Nat) : Int)), (28, .slice da dn dc), (27, .int .u8 (ys.getD (first + ((2 * root) + 1)) 0)), (26, elemPtr (.slice da dn dc) (first + ((2 * root) + 1))), (25, .int .i64 (((first : Nat) : Int) + ((2 * ((root : Nat) : Int)) + 1))), (24, .int .i64 ((2 * ((root : Nat) : Int)) + 1)), (23, .int .i64 ((first : Nat) : Int)), (22, .slice da dn dc), (0, .slice da dn dc), (2, .int .i64 ((hi : Nat) : Int)), (3, .int .i64 ((first : Nat) : Int))]) rfl ?_
          refine W.region ?_
          refine WL.op rfl (d_move rfl ?_)
          refine WL.op rfl (d_assign rfl ?_)
          refine WL.done (X.block_normal ?_)
          exact X.next [8, 0, 2, 3] (Γ' := [(8, .int .i64 (((((2 * root) + 1) + 1) : Nat) : Int)), (0, .slice da dn dc), (2, .int .i64 ((hi : Nat) : Int)), (3, .int .i64 ((first : Nat) : Int))]) rfl (2000001 - (((2 * root) + 1) + 1)) (by omega) ⟨((2 * root) + 1) + 1, (ys.set (first + root) (ys.getD (first + (((2 * root) + 1) + 1)) 0)).set (first + (((2 * root) + 1) + 1)) (ys.getD (first + root) 0), rfl, H8, (by omega), (by exact (sw_len _ _ _).trans hzys), (by first | exact (siftR_go (by omega) (by omega) c29 (Classical.not_not.1 c32)).symm.trans hI | exact (siftL_go (by omega) (fun h => absurd h.1 (by omega)) (Classical.not_not.1 c32)).symm.trans hI | exact (siftL_go (by omega) (fun h => c29 h.2) (Classical.not_not.1 c32)).symm.trans hI), rfl⟩
      · skip
        refine W.skip (X.then_code ?_)
        refine W.seq ?_
        refine W.seq ?_
        refine W.regionD mixed (by kernel_rfl) fun hok4 w9 k4 => ?_
        have H9 : UpG w [rowT (tyI .u8) (.slice da dn dc) 5 xs] w9 [[rowT (tyI .u8) (.slice da dn dc) 5 ys]] := H3.kept k4
        refine WD.take hok4 0 (.slice da dn dc) (fun _ => True) rfl rfl rfl rfl rfl trivial (.inl ⟨rfl, fun _ _ => d_move rfl ⟨rfl, rfl⟩⟩) ?_
        refine WD.take hok4 1 (.int .i64 ((first : Nat) : Int)) (fun _ => True) rfl rfl rfl rfl rfl trivial (.inl ⟨rfl, fun _ _ => d_move rfl ⟨rfl, rfl⟩⟩) ?_
        refine WD.take hok4 2 (.int .i64 ((root : Nat) : Int)) (fun _ => True) rfl rfl rfl rfl rfl trivial (.inl ⟨rfl, fun _ _ => d_move rfl ⟨rfl, rfl⟩⟩) ?_
        refine WD.take hok4 3 (.int .i64 (((first : Nat) : Int) + ((root : Nat) : Int))) (fun _ => True) rfl rfl rfl rfl rfl trivial (.inl ⟨rfl, fun _ _ => d_add rfl rfl (by omega) (by omega) ⟨rfl, rfl⟩⟩) ?_
        refine WD.take hok4 4 (elemPtr (.slice da dn dc) (first + root)) (fun w' => RdT (tyI .u8) w' (.slice da dn dc) ys) rfl rfl rfl rfl rfl (H9.rdT 0 rfl) (.inl ⟨rfl, fun _ hC => t_addr1 (first + root) (T := (tyI .u8)) rfl Try.underlying85 sz5 rfl rfl hC rfl (by omega) ⟨rfl, rfl⟩⟩) ?_
        refine WD.take hok4 5 (.int .u8 (ys.getD (first + root) 0)) (fun w' => RdT (tyI .u8) w' (.slice da dn dc) ys) rfl rfl rfl rfl rfl (H9.rdT 0 rfl) (.inl ⟨rfl, fun _ hC => t_load1 (first + root) 0 (T := (tyI .u8)) rfl Try.underlying5 rfl rfl hC (by omega) rfl ⟨rfl, rfl⟩⟩) ?_
        refine WD.take hok4 6 (.slice da dn dc) (fun _ => True) rfl rfl rfl rfl rfl trivial (.inl ⟨rfl, fun _ _ => d_move rfl ⟨rfl, rfl⟩⟩) ?_
        refine WD.take hok4 7 (.int .i64 ((first : Nat) : Int)) (fun _ => True) rfl rfl rfl rfl rfl trivial (.inl ⟨rfl, fun _ _ => d_move rfl ⟨rfl, rfl⟩⟩) ?_
        refine WD.take hok4 8 (.int .i64 ((2 * ((root : Nat) : Int)) + 1)) (fun _ => True) rfl rfl rfl rfl rfl trivial (.inl ⟨rfl, fun _ _ => d_move rfl ⟨rfl, rfl⟩⟩) ?_
        refine WD.take hok4 9 (.int .i64 (((first : Nat) : Int) + ((2 * ((root : Nat) : Int)) + 1))) (fun _ => True) rfl rfl rfl rfl rfl trivial (.inl ⟨rfl, fun _ _ => d_add rfl rfl (by omega) (by omega) ⟨rfl, rfl⟩⟩) ?_
        refine WD.take hok4 10 (elemPtr (.slice da dn dc) (first + ((2 * root) + 1))) (fun w' => RdT (tyI .u8) w' (.slice da dn dc) ys) rfl rfl rfl rfl rfl (H9.rdT 0 rfl) (.inl ⟨rfl, fun _ hC => t_addr1 (first + ((2 * root) + 1)) (T := (tyI .u8)) rfl Try.underlying85 sz5 rfl rfl hC rfl (by omega) ⟨rfl, rfl⟩⟩) ?_
        refine WD.take hok4 11 (.int .u8 (ys.getD (first + ((2 * root) + 1)) 0)) (fun w' => RdT (tyI .u8) w' (.slice da dn dc) ys) rfl rfl rfl rfl rfl (H9.rdT 0 rfl) (.inl ⟨rfl, fun _ hC => t_load1 (first + ((2 * root) + 1)) 0 (T := (tyI .u8)) rfl Try.underlying5 rfl rfl hC (by omega) rfl ⟨rfl, rfl⟩⟩) ?_
        refine WD.loud hok4 12 rfl (⟨_, [], rfl, rfl, rfl, rfl, rfl, rfl, d_call ok124 rfl (Ret.calls (less8_any (ys.getD (first + root) 0) (ys.getD (first + ((2 * root) + 1)) 0) w9  ) fun _ w10 p3 => ?_)⟩)
        obtain ⟨rfl, u5⟩ := p3
        have H10 : UpG w [rowT (tyI .u8) (.slice da dn dc) 5 xs] w10 [[rowT (tyI .u8) (.slice da dn dc) 5 ys]] := H9.call u5
        refine ⟨trivial, ?_⟩
        refine WD.take hok4 13 (.bool (decide (¬ ((ys.getD (first + root) 0) < (ys.getD (first + ((2 * root) + 1)) 0))))) (fun _ => True) rfl rfl rfl rfl rfl trivial (.inl ⟨rfl, fun _ _ => d_not (p := (ys.getD (first + root) 0) < (ys.getD (first + ((2 * root) + 1)) 0)) rfl ⟨rfl, rfl⟩⟩) ?_
        refine WD.done hok4 rfl (X.then_code ?_)
        refine W.pick [52, 35, 34, 33, 32, 31, 30, 29, 28, 27, 26, 25, 24, 23, 22, 9, 8, 0, 2, 3] (Γ' := [(52, .bool (decide (¬ ((ys.getD (first + root) 0) < (ys.getD (first + ((2 * root) + 1)) 0))))), (35, .bool (decide ((ys.getD (first + ((2 * root) + 1)) 0) < (ys.getD ((first + ((2 * root) + 1)) + 1) 0)))), (34, .int .u8 (ys.getD ((first + ((2 * root) + 1)) + 1) 0)), (33, elemPtr (.slice da dn dc) ((first + ((2 * root) + 1)) + 1)), (32, .int .i64 ((((first : Nat) : Int) + ((2 * ((root : Nat) : Int)) + 1)) + 1)), (31, .int .i64 (((first : Nat) : Int) + ((2 * ((root : Nat) : Int)) + 1))), (30, .int .i64 ((2 * ((root : Nat) : Int)) + 1)), (29, .int .i64 ((first : Nat) : Int)), (28, .slice da dn dc), (27, .int .u8 (ys.getD (first + ((2 * root) + 1)) 0)), (26, elemPtr (.slice da dn dc) (first + ((2 * root) + 1))), (25, .int .i64 (((first : Nat) : Int) + ((2 * ((root : Nat) : Int)) + 1))), (24, .int .i64 ((2 * ((root : Nat) : Int)) + 1)), (23, .int .i64 ((first : Nat) : Int)), (22, .slice da dn dc), (9, .int .i64 ((2 * ((root : Nat) : Int)) + 1)), (8, .int .i64 ((root : Nat) : Int)), (0, .slice da dn dc), (2, .int .i64 ((hi : Nat) : Int)), (3, .int .i64 ((first : Nat) : Int))]) rfl ?_
        refine W.ite (p := ¬ ((ys.getD (first + root) 0) < (ys.getD (first + ((2 * root) + 1)) 0))) rfl (fun c32 => ?_) (fun c32 => ?_)
        · skip
          refine W.ret (X.then_ret (X.block_ret (X.then_ret (X.block_ret (X.ret0 rfl ?_)))))
          have e : (Go.Sort.siftDown Go.Sort.ltInt hi first lo xs.toArray).toList = ys := by first | (rw [← hI, sift_end (by omega)]) | (rw [← hI, siftR_end (by omega) (by omega) c29 c32]) | (rw [← hI, siftL_end (by omega) (fun h => absurd h.1 (by omega)) c32]) | (rw [← hI, siftL_end (by omega) (fun h => c29 h.2) c32])
          rw [e]
          exact ⟨rfl, (Upd.sel H10 (l := [0]) rfl rfl)⟩
        · skip
          refine W.skip (X.then_code ?_)
          refine W.seq ?_
          refine W.regionD mixed (by kernel_rfl) fun hok5 w11 k5 => ?_
          have H11 : UpG w [rowT (tyI .u8) (.slice da dn dc) 5 xs] w11 [[rowT (tyI .u8) (.slice da dn dc) 5 ys]] := H10.kept k5
          refine WD.take hok5 0 (.slice da dn dc) (fun _ => True) rfl rfl rfl rfl rfl trivial (.inl ⟨rfl, fun _ _ => d_move rfl ⟨rfl, rfl⟩⟩) ?_
          refine WD.take hok5 1 (.int .i64 ((first : Nat) : Int)) (fun _ => True) rfl rfl rfl rfl rfl trivial (.inl ⟨rfl, fun _ _ => d_move rfl ⟨rfl, rfl⟩⟩) ?_
          refine WD.take hok5 2 (.int .i64 ((root : Nat) : Int)) (fun _ => True) rfl rfl rfl rfl rfl trivial (.inl ⟨rfl, fun _ _ => d_move rfl ⟨rfl, rfl⟩⟩) ?_
          refine WD.take hok5 3 (.int .i64 (((first : Nat) : Int) + ((root : Nat) : Int))) (fun _ => True) rfl rfl rfl rfl rfl trivial (.inl ⟨rfl, fun _ _ => d_add rfl rfl (by omega) (by omega) ⟨rfl, rfl⟩⟩) ?_
          refine WD.take hok5 4 (.slice da dn dc) (fun _ => True) rfl rfl rfl rfl rfl trivial (.inl ⟨rfl, fun _ _ => d_move rfl ⟨rfl, rfl⟩⟩) ?_
          refine WD.take hok5 5 (.int .i64 ((first : Nat) : Int)) (fun _ => True) rfl rfl rfl rfl rfl trivial (.inl ⟨rfl, fun _ _ => d_move rfl ⟨rfl, rfl⟩⟩) ?_
          refine WD.take hok5 6 (.int .i64 ((2 * ((root : Nat) : Int)) + 1)) (fun _ => True) rfl rfl rfl rfl rfl trivial (.inl ⟨rfl, fun _ _ => d_move rfl ⟨rfl, rfl⟩⟩) ?_
          refine WD.take hok5 7 (.int .i64 (((first : Nat) : Int) + ((2 * ((root : Nat) : Int)) + 1))) (fun _ => True) rfl rfl rfl rfl rfl trivial (.inl ⟨rfl, fun _ _ => d_add rfl rfl (by omega) (by omega) ⟨rfl, rfl⟩⟩) ?_
          refine WD.take hok5 8 (.slice da dn dc) (fun _ => True) rfl rfl rfl rfl rfl trivial (.inl ⟨rfl, fun _ _ => d_move rfl ⟨rfl, rfl⟩⟩) ?_
          refine WD.take hok5 9 (.int .i64 ((first : Nat) : Int)) (fun _ => True) rfl rfl rfl rfl rfl trivial (.inl ⟨rfl, fun _ _ => d_move rfl ⟨rfl, rfl⟩⟩) ?_
          refine WD.take hok5 10 (.int .i64 ((2 * ((root : Nat) : Int)) + 1)) (fun _ => True) rfl rfl rfl rfl rfl trivial (.inl ⟨rfl, fun _ _ => d_move rfl ⟨rfl, rfl⟩⟩) ?_
          refine WD.take hok5 11 (.int .i64 (((first : Nat) : Int) + ((2 * ((root : Nat) : Int)) + 1))) (fun _ => True) rfl rfl rfl rfl rfl trivial (.inl ⟨rfl, fun _ _ => d_add rfl rfl (by omega) (by omega) ⟨rfl, rfl⟩⟩) ?_
          refine WD.take hok5 12 (elemPtr (.slice da dn dc) (first + ((2 * root) + 1))) (fun w' => RdT (tyI .u8) w' (.slice da dn dc) ys) rfl rfl rfl rfl rfl (H11.rdT 0 rfl) (.inl ⟨rfl, fun _ hC => t_addr1 (first + ((2 * root) + 1)) (T := (tyI .u8)) rfl Try.underlying85 sz5 rfl rfl hC rfl (by first | omega | (simp only [List.length_set]; omega)) ⟨rfl, rfl⟩⟩) ?_
          refine WD.take hok5 13 (.int .u8 (ys.getD (first + ((2 * root) + 1)) 0)) (fun w' => RdT (tyI .u8) w' (.slice da dn dc) ys) rfl rfl rfl rfl rfl (H11.rdT 0 rfl) (.inl ⟨rfl, fun _ hC => t_load1 (first + ((2 * root) + 1)) 0 (T := (tyI .u8)) rfl Try.underlying5 rfl rfl hC (by first | omega | (simp only [List.length_set]; omega)) rfl ⟨rfl, rfl⟩⟩) ?_
          refine WD.take hok5 14 (.slice da dn dc) (fun _ => True) rfl rfl rfl rfl rfl trivial (.inl ⟨rfl, fun _ _ => d_move rfl ⟨rfl, rfl⟩⟩) ?_
          refine WD.take hok5 15 (.int .i64 ((first : Nat) : Int)) (fun _ => True) rfl rfl rfl rfl rfl trivial (.inl ⟨rfl, fun _ _ => d_move rfl ⟨rfl, rfl⟩⟩) ?_
          refine WD.take hok5 16 (.int .i64 ((root : Nat) : Int)) (fun _ => True) rfl rfl rfl rfl rfl trivial (.inl ⟨rfl, fun _ _ => d_move rfl ⟨rfl, rfl⟩⟩) ?_
          refine WD.take hok5 17 (.int .i64 (((first : Nat) : Int) + ((root : Nat) : Int))) (fun _ => True) rfl rfl rfl rfl rfl trivial (.inl ⟨rfl, fun _ _ => d_add rfl rfl (by omega) (by omega) ⟨rfl, rfl⟩⟩) ?_
          refine WD.take hok5 18 (elemPtr (.slice da dn dc) (first + root)) (fun w' => RdT (tyI .u8) w' (.slice da dn dc) ys) rfl rfl rfl rfl rfl (H11.rdT 0 rfl) (.inl ⟨rfl, fun _ hC => t_addr1 (first + root) (T := (tyI .u8)) rfl Try.underlying85 sz5 rfl rfl hC rfl (by first | omega | (simp only [List.length_set]; omega)) ⟨rfl, rfl⟩⟩) ?_
          refine WD.take hok5 19 (.int .u8 (ys.getD (first + root) 0)) (fun w' => RdT (tyI .u8) w' (.slice da dn dc) ys) rfl rfl rfl rfl rfl (H11.rdT 0 rfl) (.inl ⟨rfl, fun _ hC => t_load1 (first + root) 0 (T := (tyI .u8)) rfl Try.underlying5 rfl rfl hC (by first | omega | (simp only [List.length_set]; omega)) rfl ⟨rfl, rfl⟩⟩) ?_
          refine WD.take hok5 20 (elemPtr (.slice da dn dc) (first + root)) (fun w' => RdT (tyI .u8) w' (.slice da dn dc) ys) rfl rfl rfl rfl rfl (H11.rdT 0 rfl) (.inl ⟨rfl, fun _ hC => t_addr1 (first + root) (T := (tyI .u8)) rfl Try.underlying85 sz5 rfl rfl hC rfl (by first | omega | (simp only [List.length_set]; omega)) ⟨rfl, rfl⟩⟩) ?_
          refine WD.loud hok5 21 rfl (⟨_, [⟨7, .int .i64 (((first : Nat) : Int) + ((2 * ((root : Nat) : Int)) + 1)), (fun _ => True)⟩, ⟨6, .int .i64 ((2 * ((root : Nat) : Int)) + 1), (fun _ => True)⟩, ⟨5, .int .i64 ((first : Nat) : Int), (fun _ => True)⟩, ⟨4, .slice da dn dc, (fun _ => True)⟩], rfl, rfl, rfl, rfl, rfl, rfl, t_store1 (first + root) (ys.getD (first + ((2 * root) + 1)) 0) (T := (tyI .u8)) (e := 5) rfl sz5 rfl rfl rfl (H11.ownT 0 rfl) (by first | omega | (simp only [List.length_set]; omega)) fun w12 u6 => ?_⟩)
          have H12 : UpG w [rowT (tyI .u8) (.slice da dn dc) 5 xs] w12 [[rowT (tyI .u8) (.slice da dn dc) 5 (ys.set (first + root) (ys.getD (first + ((2 * root) + 1)) 0))]] := H11.on 0 rfl u6
          refine ⟨⟨trivial, trivial, trivial, trivial, trivial⟩, ?_⟩
          refine WD.take hok5 22 (elemPtr (.slice da dn dc) (first + ((2 * root) + 1))) (fun w' => RdT (tyI .u8) w' (.slice da dn dc) (ys.set (first + root) (ys.getD (first + ((2 * root) + 1)) 0))) rfl rfl rfl rfl rfl (H12.rdT 0 rfl) (.inl ⟨rfl, fun _ hC => t_addr1 (first + ((2 * root) + 1)) (T := (tyI .u8)) rfl Try.underlying85 sz5 rfl rfl hC rfl (by first | omega | (simp only [List.length_set]; omega)) ⟨rfl, rfl⟩⟩) ?_
          refine WD.loud hok5 23 rfl (⟨_, [], rfl, rfl, rfl, rfl, rfl, rfl, t_store1 (first + ((2 * root) + 1)) (ys.getD (first + root) 0) (T := (tyI .u8)) (e := 5) rfl sz5 rfl rfl rfl (H12.ownT 0 rfl) (by first | omega | (simp only [List.length_set]; omega)) fun w13 u7 => ?_⟩)
          have H13 : UpG w [rowT (tyI .u8) (.slice da dn dc) 5 xs] w13 [[rowT (tyI .u8) (.slice da dn dc) 5 ((ys.set (first + root) (ys.getD (first + ((2 * root) + 1)) 0)).set (first + ((2 * root) + 1)) (ys.getD (first + root) 0))]] := H12.on 0 rfl u7
          refine ⟨trivial, ?_⟩
          refine WD.done hok5 rfl (X.then_code ?_)
          refine W.pick [35, 34, 33, 32, 31, 30, 29, 28, 27, 26, 25, 24, 23, 22, 9, 0, 2, 3] (Γ' := [(35, .bool (decide ((ys.getD (first + ((2 * root) + 1)) 0) < (ys.getD ((first + ((2 * root) + 1)) + 1) 0)))), (34, .int .u8 (ys.getD ((first + ((2 * root) + 1)) + 1) 0)), (33, elemPtr (.slice da dn dc) ((first + ((2 * root) + 1)) + 1)), (32, .int .i64 ((((first : Nat) : Int) + ((2 * ((root : Nat) : Int)) + 1)) + 1)), (31, .int .i64 (((first : Nat) : Int) + ((2 * ((root : Nat) : Int)) + 1))), (30, .int .i64 ((2 * ((root : Nat) : Int)) + 1)), (29, .int .i64 ((first : Nat) : Int)), (28, .slice da dn dc), (27, .int .u8 (ys.getD (first + ((2 * root) + 1)) 0)), (26, elemPtr (.slice da dn dc) (first + ((2 * root) + 1))), (25, .int .i64 (((first : Nat) : Int) + ((2 * ((root : Nat) : Int)) + 1))), (24, .int .i64 ((2 * ((root : Nat) : Int)) + 1)), (23, .int .i64 ((first : Nat) : Int)), (22, .slice da dn dc), (9, .int .i64 ((2 * ((root : Nat) : Int)) + 1)), (0, .slice da dn dc), (2, .int .i64 ((hi : Nat) : Int)), (3, .int .i64 ((first : Nat) : Int))]) rfl ?_
          refine W.region ?_
          refine WL.op rfl (d_move rfl ?_)
          refine WL.op rfl (d_assign rfl ?_)
          refine WL.done (X.block_normal ?_)
          exact X.next [8, 0, 2, 3] (Γ' := [(8, .int .i64 ((((2 * root) + 1) : Nat) : Int)), (0, .slice da dn dc), (2, .int .i64 ((hi : Nat) : Int)), (3, .int .i64 ((first : Nat) : Int))]) rfl (2000001 - ((2 * root) + 1)) (by omega) ⟨(2 * root) + 1, (ys.set (first + root) (ys.getD (first + ((2 * root) + 1)) 0)).set (first + ((2 * root) + 1)) (ys.getD (first + root) 0), rfl, H13, (by omega), (by exact (sw_len _ _ _).trans hzys), (by first | exact (siftR_go (by omega) (by omega) c29 (Classical.not_not.1 c32)).symm.trans hI | exact (siftL_go (by omega) (fun h => absurd h.1 (by omega)) (Classical.not_not.1 c32)).symm.trans hI | exact (siftL_go (by omega) (fun h => c29 h.2) (Classical.not_not.1 c32)).symm.trans hI), rfl⟩
    · skip
      refine WD.take hok1 5 undef (fun _ => True) rfl rfl rfl rfl rfl trivial (.inr ⟨rfl, rfl⟩) ?_
      refine WD.take hok1 6 undef (fun _ => True) rfl rfl rfl rfl rfl trivial (.inr ⟨rfl, rfl⟩) ?_
      refine WD.take hok1 7 undef (fun _ => True) rfl rfl rfl rfl rfl trivial (.inr ⟨rfl, rfl⟩) ?_
      refine WD.take hok1 8 undef (fun _ => True) rfl rfl rfl rfl rfl trivial (.inr ⟨rfl, rfl⟩) ?_
      refine WD.take hok1 9 undef (fun _ => True) rfl rfl rfl rfl rfl trivial (.inr ⟨rfl, rfl⟩) ?_
      refine WD.take hok1 10 undef (fun _ => True) rfl rfl rfl rfl rfl trivial (.inr ⟨rfl, rfl⟩) ?_
      refine WD.take hok1 11 undef (fun _ => True) rfl rfl rfl rfl rfl trivial (.inr ⟨rfl, rfl⟩) ?_
      refine WD.take hok1 12 undef (fun _ => True) rfl rfl rfl rfl rfl trivial (.inr ⟨rfl, rfl⟩) ?_
      refine WD.take hok1 13 undef (fun _ => True) rfl rfl rfl rfl rfl trivial (.inr ⟨rfl, rfl⟩) ?_
      refine WD.take hok1 14 undef (fun _ => True) rfl rfl rfl rfl rfl trivial (.inr ⟨rfl, rfl⟩) ?_
      refine WD.take hok1 15 undef (fun _ => True) rfl rfl rfl rfl rfl trivial (.inr ⟨rfl, rfl⟩) ?_
      refine WD.take hok1 16 undef (fun _ => True) rfl rfl rfl rfl rfl trivial (.inr ⟨rfl, rfl⟩) ?_
      refine WD.take hok1 17 undef (fun _ => True) rfl rfl rfl rfl rfl trivial (.inr ⟨rfl, rfl⟩) ?_
      refine WD.take hok1 18 undef (fun _ => True) rfl rfl rfl rfl rfl trivial (.inr ⟨rfl, rfl⟩) ?_
      refine WD.take hok1 19 (.bool false) (fun _ => True) rfl rfl rfl rfl rfl trivial (.inl ⟨rfl, fun _ _ => d_pick rfl rfl ⟨rfl, rfl⟩⟩) ?_
      refine WD.done hok1 rfl (X.then_code ?_)
      refine W.pick [36, 35, 34, 33, 32, 31, 30, 29, 28, 27, 26, 25, 24, 23, 22, 9, 8, 0, 2, 3] (Γ' := [(36, .bool false), (35, undef), (34, undef), (33, undef), (32, undef), (31, undef), (30, undef), (29, undef), (28, undef), (27, undef), (26, undef), (25, undef), (24, undef), (23, undef), (22, undef), (9, .int .i64 ((2 * ((root : Nat) : Int)) + 1)), (8, .int .i64 ((root : Nat) : Int)), (0, .slice da dn dc), (2, .int .i64 ((hi : Nat) : Int)), (3, .int .i64 ((first : Nat) : Int))]) rfl ?_
      refine W.iff rfl ?_
      refine W.skip (X.then_code ?_)
      refine W.seq ?_
      refine W.seq ?_
      refine W.regionD mixed (by kernel_rfl) fun hok6 w14 k6 => ?_
      have H14 : UpG w [rowT (tyI .u8) (.slice da dn dc) 5 xs] w14 [[rowT (tyI .u8) (.slice da dn dc) 5 ys]] := H2.kept k6
      refine WD.take hok6 0 (.slice da dn dc) (fun _ => True) rfl rfl rfl rfl rfl trivial (.inl ⟨rfl, fun _ _ => d_move rfl ⟨rfl, rfl⟩⟩) ?_
      refine WD.take hok6 1 (.int .i64 ((first : Nat) : Int)) (fun _ => True) rfl rfl rfl rfl rfl trivial (.inl ⟨rfl, fun _ _ => d_move rfl ⟨rfl, rfl⟩⟩) ?_
      refine WD.take hok6 2 (.int .i64 ((root : Nat) : Int)) (fun _ => True) rfl rfl rfl rfl rfl trivial (.inl ⟨rfl, fun _ _ => d_move rfl ⟨rfl, rfl⟩⟩) ?_
      refine WD.take hok6 3 (.int .i64 (((first : Nat) : Int) + ((root : Nat) : Int))) (fun _ => True) rfl rfl rfl rfl rfl trivial (.inl ⟨rfl, fun _ _ => d_add rfl rfl (by omega) (by omega) ⟨rfl, rfl⟩⟩) ?_
      refine WD.take hok6 4 (elemPtr (.slice da dn dc) (first + root)) (fun w' => RdT (tyI .u8) w' (.slice da dn dc) ys) rfl rfl rfl rfl rfl (H14.rdT 0 rfl) (.inl ⟨rfl, fun _ hC => t_addr1 (first + root) (T := (tyI .u8)) rfl Try.underlying85 sz5 rfl rfl hC rfl (by omega) ⟨rfl, rfl⟩⟩) ?_
      refine WD.take hok6 5 (.int .u8 (ys.getD (first + root) 0)) (fun w' => RdT (tyI .u8) w' (.slice da dn dc) ys) rfl rfl rfl rfl rfl (H14.rdT 0 rfl) (.inl ⟨rfl, fun _ hC => t_load1 (first + root) 0 (T := (tyI .u8)) rfl Try.underlying5 rfl rfl hC (by omega) rfl ⟨rfl, rfl⟩⟩) ?_
      refine WD.take hok6 6 (.slice da dn dc) (fun _ => True) rfl rfl rfl rfl rfl trivial (.inl ⟨rfl, fun _ _ => d_move rfl ⟨rfl, rfl⟩⟩) ?_
      refine WD.take hok6 7 (.int .i64 ((first : Nat) : Int)) (fun _ => True) rfl rfl rfl rfl rfl trivial (.inl ⟨rfl, fun _ _ => d_move rfl ⟨rfl, rfl⟩⟩) ?_
      refine WD.take hok6 8 (.int .i64 ((2 * ((root : Nat) : Int)) + 1)) (fun _ => True) rfl rfl rfl rfl rfl trivial (.inl ⟨rfl, fun _ _ => d_move rfl ⟨rfl, rfl⟩⟩) ?_
      refine WD.take hok6 9 (.int .i64 (((first : Nat) : Int) + ((2 * ((root : Nat) : Int)) + 1))) (fun _ => True) rfl rfl rfl rfl rfl trivial (.inl ⟨rfl, fun _ _ => d_add rfl rfl (by omega) (by omega) ⟨rfl, rfl⟩⟩) ?_
      refine WD.take hok6 10 (elemPtr (.slice da dn dc) (first + ((2 * root) + 1))) (fun w' => RdT (tyI .u8) w' (.slice da dn dc) ys) rfl rfl rfl rfl rfl (H14.rdT 0 rfl) (.inl ⟨rfl, fun _ hC => t_addr1 (first + ((2 * root) + 1)) (T := (tyI .u8)) rfl Try.underlying85 sz5 rfl rfl hC rfl (by omega) ⟨rfl, rfl⟩⟩) ?_
      refine WD.take hok6 11 (.int .u8 (ys.getD (first + ((2 * root) + 1)) 0)) (fun w' => RdT (tyI .u8) w' (.slice da dn dc) ys) rfl rfl rfl rfl rfl (H14.rdT 0 rfl) (.inl ⟨rfl, fun _ hC => t_load1 (first + ((2 * root) + 1)) 0 (T := (tyI .u8)) rfl Try.underlying5 rfl rfl hC (by omega) rfl ⟨rfl, rfl⟩⟩) ?_
      refine WD.loud hok6 12 rfl (⟨_, [], rfl, rfl, rfl, rfl, rfl, rfl, d_call ok124 rfl (Ret.calls (less8_any (ys.getD (first + root) 0) (ys.getD (first + ((2 * root) + 1)) 0) w14  ) fun _ w15 p4 => ?_)⟩)
      obtain ⟨rfl, u8⟩ := p4
      have H15 : UpG w [rowT (tyI .u8) (.slice da dn dc) 5 xs] w15 [[rowT (tyI .u8) (.slice da dn dc) 5 ys]] := H14.call u8
      refine ⟨trivial, ?_⟩
      refine WD.take hok6 13 (.bool (decide (¬ ((ys.getD (first + root) 0) < (ys.getD (first + ((2 * root) + 1)) 0))))) (fun _ => True) rfl rfl rfl rfl rfl trivial (.inl ⟨rfl, fun _ _ => d_not (p := (ys.getD (first + root) 0) < (ys.getD (first + ((2 * root) + 1)) 0)) rfl ⟨rfl, rfl⟩⟩) ?_
      refine WD.done hok6 rfl (X.then_code ?_)
      refine W.pick [52, 35, 34, 33, 32, 31, 30, 29, 28, 27, 26, 25, 24, 23, 22, 9, 8, 0, 2, 3] (Γ' := [(52, .bool (decide (¬ ((ys.getD (first + root) 0) < (ys.getD (first + ((2 * root) + 1)) 0))))), (35, undef), (34, undef), (33, undef), (32, undef), (31, undef), (30, undef), (29, undef), (28, undef), (27, undef), (26, undef), (25, undef), (24, undef), (23, undef), (22, undef), (9, .int .i64 ((2 * ((root : Nat) : Int)) + 1)), (8, .int .i64 ((root : Nat) : Int)), (0, .slice da dn dc), (2, .int .i64 ((hi : Nat) : Int)), (3, .int .i64 ((first : Nat) : Int))]) rfl ?_
      refine W.ite (p := ¬ ((ys.getD (first + root) 0) < (ys.getD (first + ((2 * root) + 1)) 0))) rfl (fun c32 => ?_) (fun c32 => ?_)
      · skip
        refine W.ret (X.then_ret (X.block_ret (X.then_ret (X.block_ret (X.ret0 rfl ?_)))))
        have e : (Go.Sort.siftDown Go.Sort.ltInt hi first lo xs.toArray).toList = ys := by first | (rw [← hI, sift_end (by omega)]) | (rw [← hI, siftR_end (by omega) (by omega) c29 c32]) | (rw [← hI, siftL_end (by omega) (fun h => absurd h.1 (by omega)) c32]) | (rw [← hI, siftL_end (by omega) (fun h => c29 h.2) c32])
        rw [e]
        exact ⟨rfl, (Upd.sel H15 (l := [0]) rfl rfl)⟩
      · skip
        refine W.skip (X.then_code ?_)
        refine W.seq ?_
        refine W.regionD mixed (by kernel_rfl) fun hok7 w16 k7 => ?_
        have H16 : UpG w [rowT (tyI .u8) (.slice da dn dc) 5 xs] w16 [[rowT (tyI .u8) (.slice da dn dc) 5 ys]] := H15.kept k7
        refine WD.take hok7 0 (.slice da dn dc) (fun _ => True) rfl rfl rfl rfl rfl trivial (.inl ⟨rfl, fun _ _ => d_move rfl ⟨rfl, rfl⟩⟩) ?_
        refine WD.take hok7 1 (.int .i64 ((first : Nat) : Int)) (fun _ => True) rfl rfl rfl rfl rfl trivial (.inl ⟨rfl, fun _ _ => d_move rfl ⟨rfl, rfl⟩⟩) ?_
        refine WD.take hok7 2 (.int .i64 ((root : Nat) : Int)) (fun _ => True) rfl rfl rfl rfl rfl trivial (.inl ⟨rfl, fun _ _ => d_move rfl ⟨rfl, rfl⟩⟩) ?_
        refine WD.take hok7 3 (.int .i64 (((first : Nat) : Int) + ((root : Nat) : Int))) (fun _ => True) rfl rfl rfl rfl rfl trivial (.inl ⟨rfl, fun _ _ => d_add rfl rfl (by omega) (by omega) ⟨rfl, rfl⟩⟩) ?_
        refine WD.take hok7 4 (.slice da dn dc) (fun _ => True) rfl rfl rfl rfl rfl trivial (.inl ⟨rfl, fun _ _ => d_move rfl ⟨rfl, rfl⟩⟩) ?_
        refine WD.take hok7 5 (.int .i64 ((first : Nat) : Int)) (fun _ => True) rfl rfl rfl rfl rfl trivial (.inl ⟨rfl, fun _ _ => d_move rfl ⟨rfl, rfl⟩⟩) ?_
        refine WD.take hok7 6 (.int .i64 ((2 * ((root : Nat) : Int)) + 1)) (fun _ => True) rfl rfl rfl rfl rfl trivial (.inl ⟨rfl, fun _ _ => d_move rfl ⟨rfl, rfl⟩⟩) ?_
        refine WD.take hok7 7 (.int .i64 (((first : Nat) : Int) + ((2 * ((root : Nat) : Int)) + 1))) (fun _ => True) rfl rfl rfl rfl rfl trivial (.inl ⟨rfl, fun _ _ => d_add rfl rfl (by omega) (by omega) ⟨rfl, rfl⟩⟩) ?_
        refine WD.take hok7 8 (.slice da dn dc) (fun _ => True) rfl rfl rfl rfl rfl trivial (.inl ⟨rfl, fun _ _ => d_move rfl ⟨rfl, rfl⟩⟩) ?_
        refine WD.take hok7 9 (.int .i64 ((first : Nat) : Int)) (fun _ => True) rfl rfl rfl rfl rfl trivial (.inl ⟨rfl, fun _ _ => d_move rfl ⟨rfl, rfl⟩⟩) ?_
        refine WD.take hok7 10 (.int .i64 ((2 * ((root : Nat) : Int)) + 1)) (fun _ => True) rfl rfl rfl rfl rfl trivial (.inl ⟨rfl, fun _ _ => d_move rfl ⟨rfl, rfl⟩⟩) ?_
        refine WD.take hok7 11 (.int .i64 (((first : Nat) : Int) + ((2 * ((root : Nat) : Int)) + 1))) (fun _ => True) rfl rfl rfl rfl rfl trivial (.inl ⟨rfl, fun _ _ => d_add rfl rfl (by omega) (by omega) ⟨rfl, rfl⟩⟩) ?_
        refine WD.take hok7 12 (elemPtr (.slice da dn dc) (first + ((2 * root) + 1))) (fun w' => RdT (tyI .u8) w' (.slice da dn dc) ys) rfl rfl rfl rfl rfl (H16.rdT 0 rfl) (.inl ⟨rfl, fun _ hC => t_addr1 (first + ((2 * root) + 1)) (T := (tyI .u8)) rfl Try.underlying85 sz5 rfl rfl hC rfl (by first | omega | (simp only [List.length_set]; omega)) ⟨rfl, rfl⟩⟩) ?_
        refine WD.take hok7 13 (.int .u8 (ys.getD (first + ((2 * root) + 1)) 0)) (fun w' => RdT (tyI .u8) w' (.slice da dn dc) ys) rfl rfl rfl rfl rfl (H16.rdT 0 rfl) (.inl ⟨rfl, fun _ hC => t_load1 (first + ((2 * root) + 1)) 0 (T := (tyI .u8)) rfl Try.underlying5 rfl rfl hC (by first | omega | (simp only [List.length_set]; omega)) rfl ⟨rfl, rfl⟩⟩) ?_
        refine WD.take hok7 14 (.slice da dn dc) (fun _ => True) rfl rfl rfl rfl rfl trivial (.inl ⟨rfl, fun _ _ => d_move rfl ⟨rfl, rfl⟩⟩) ?_
        refine WD.take hok7 15 (.int .i64 ((first : Nat) : Int)) (fun _ => True) rfl rfl rfl rfl rfl trivial (.inl ⟨rfl, fun _ _ => d_move rfl ⟨rfl, rfl⟩⟩) ?_
        refine WD.take hok7 16 (.int .i64 ((root : Nat) : Int)) (fun _ => True) rfl rfl rfl rfl rfl trivial (.inl ⟨rfl, fun _ _ => d_move rfl ⟨rfl, rfl⟩⟩) ?_
        refine WD.take hok7 17 (.int .i64 (((first : Nat) : Int) + ((root : Nat) : Int))) (fun _ => True) rfl rfl rfl rfl rfl trivial (.inl ⟨rfl, fun _ _ => d_add rfl rfl (by omega) (by omega) ⟨rfl, rfl⟩⟩) ?_
        refine WD.take hok7 18 (elemPtr (.slice da dn dc) (first + root)) (fun w' => RdT (tyI .u8) w' (.slice da dn dc) ys) rfl rfl rfl rfl rfl (H16.rdT 0 rfl) (.inl ⟨rfl, fun _ hC => t_addr1 (first + root) (T := (tyI .u8)) rfl Try.underlying85 sz5 rfl rfl hC rfl (by first | omega | (simp only [List.length_set]; omega)) ⟨rfl, rfl⟩⟩) ?_
        refine WD.take hok7 19 (.int .u8 (ys.getD (first + root) 0)) (fun w' => RdT (tyI .u8) w' (.slice da dn dc) ys) rfl rfl rfl rfl rfl (H16.rdT 0 rfl) (.inl ⟨rfl, fun _ hC => t_load1 (first + root) 0 (T := (tyI .u8)) rfl Try.underlying5 rfl rfl hC (by first | omega | (simp only [List.length_set]; omega)) rfl ⟨rfl, rfl⟩⟩) ?_
        refine WD.take hok7 20 (elemPtr (.slice da dn dc) (first + root)) (fun w' => RdT (tyI .u8) w' (.slice da dn dc) ys) rfl rfl rfl rfl rfl (H16.rdT 0 rfl) (.inl ⟨rfl, fun _ hC => t_addr1 (first + root) (T := (tyI .u8)) rfl Try.underlying85 sz5 rfl rfl hC rfl (by first | omega | (simp only [List.length_set]; omega)) ⟨rfl, rfl⟩⟩) ?_
        refine WD.loud hok7 21 rfl (⟨_, [⟨7, .int .i64 (((first : Nat) : Int) + ((2 * ((root : Nat) : Int)) + 1)), (fun _ => True)⟩, ⟨6, .int .i64 ((2 * ((root : Nat) : Int)) + 1), (fun _ => True)⟩, ⟨5, .int .i64 ((first : Nat) : Int), (fun _ => True)⟩, ⟨4, .slice da dn dc, (fun _ => True)⟩], rfl, rfl, rfl, rfl, rfl, rfl, t_store1 (first + root) (ys.getD (first + ((2 * root) + 1)) 0) (T := (tyI .u8)) (e := 5) rfl sz5 rfl rfl rfl (H16.ownT 0 rfl) (by first | omega | (simp only [List.length_set]; omega)) fun w17 u9 => ?_⟩)
        have H17 : UpG w [rowT (tyI .u8) (.slice da dn dc) 5 xs] w17 [[rowT (tyI .u8) (.slice da dn dc) 5 (ys.set (first + root) (ys.getD (first + ((2 * root) + 1)) 0))]] := H16.on 0 rfl u9
        refine ⟨⟨trivial, trivial, trivial, trivial, trivial⟩, ?_⟩
        refine WD.take hok7 22 (elemPtr (.slice da dn dc) (first + ((2 * root) + 1))) (fun w' => RdT (tyI .u8) w' (.slice da dn dc) (ys.set (first + root) (ys.getD (first + ((2 * root) + 1)) 0))) rfl rfl rfl rfl rfl (H17.rdT 0 rfl) (.inl ⟨rfl, fun _ hC => t_addr1 (first + ((2 * root) + 1)) (T := (tyI .u8)) rfl Try.underlying85 sz5 rfl rfl hC rfl (by first | omega | (simp only [List.length_set]; omega)) ⟨rfl, rfl⟩⟩) ?_
        refine WD.loud hok7 23 rfl (⟨_, [], rfl, rfl, rfl, rfl, rfl, rfl, t_store1 (first + ((2 * root) + 1)) (ys.getD (first + root) 0) (T := (tyI .u8)) (e := 5) rfl sz5 rfl rfl rfl (H17.ownT 0 rfl) (by first | omega | (simp only [List.length_set]; omega)) fun w18 u10 => ?_⟩)
        have H18 : UpG w [rowT (tyI .u8) (.slice da dn dc) 5 xs] w18 [[rowT (tyI .u8) (.slice da dn dc) 5 ((ys.set (first + root) (ys.getD (first + ((2 * root) + 1)) 0)).set (first + ((2 * root) + 1)) (ys.getD (first + root) 0))]] := H17.on 0 rfl u10
        refine ⟨trivial, ?_⟩
        refine WD.done hok7 rfl (X.then_code ?_)
        refine W.pick [35, 34, 33, 32, 31, 30, 29, 28, 27, 26, 25, 24, 23, 22, 9, 0, 2, 3] (Γ' := [(35, undef), (34, undef), (33, undef), (32, undef), (31, undef), (30, undef), (29, undef), (28, undef), (27, undef), (26, undef), (25, undef), (24, undef), (23, undef), (22, undef), (9, .int .i64 ((2 * ((root : Nat) : Int)) + 1)), (0, .slice da dn dc), (2, .int .i64 ((hi : Nat) : Int)), (3, .int .i64 ((first : Nat) : Int))]) rfl ?_
        refine W.region ?_
        refine WL.op rfl (d_move rfl ?_)
        refine WL.op rfl (d_assign rfl ?_)
        refine WL.done (X.block_normal ?_)
        exact X.next [8, 0, 2, 3] (Γ' := [(8, .int .i64 ((((2 * root) + 1) : Nat) : Int)), (0, .slice da dn dc), (2, .int .i64 ((hi : Nat) : Int)), (3, .int .i64 ((first : Nat) : Int))]) rfl (2000001 - ((2 * root) + 1)) (by omega) ⟨(2 * root) + 1, (ys.set (first + root) (ys.getD (first + ((2 * root) + 1)) 0)).set (first + ((2 * root) + 1)) (ys.getD (first + root) 0), rfl, H18, (by omega), (by exact (sw_len _ _ _).trans hzys), (by first | exact (siftR_go (by omega) (by omega) c29 (Classical.not_not.1 c32)).symm.trans hI | exact (siftL_go (by omega) (fun h => absurd h.1 (by omega)) (Classical.not_not.1 c32)).symm.trans hI | exact (siftL_go (by omega) (fun h => c29 h.2) (Classical.not_not.1 c32)).symm.trans hI), rfl⟩

set_option maxRecDepth 20000 in
theorem heap8_any (da : Option Addr) (xs : List Int) (dc : Nat) (dn : Nat) (aI : Int) (a : Nat) (bI : Int) (b : Nat) (w : World) (hp : Hp w [rowT (tyI .u8) (.slice da dn dc) 5 xs]) (e_a : aI = ((a : Nat) : Int)) (e_b : bI = ((b : Nat) : Int)) (hab : a < b ∧ b ≤ xs.length ∧ xs.length ≤ 1000000) :
    Calls Try.prog 119 #[.slice da dn dc, .int .i64 aI, .int .i64 bI] w (Ret fun v w' => v = .tuple #[] ∧ Upd w [rowT (tyI .u8) (.slice da dn dc) 5 xs] w' [rowT (tyI .u8) (.slice da dn dc) 5 ((Go.Sort.heapSort Go.Sort.ltInt xs.toArray a b).toList)]) := by
  subst e_a
  subst e_b
  have hn := (hp_rdT hp (List.mem_of_getElem? (i := 0) rfl)).len
  refine calls_of_W (args := [.slice da dn dc, .int .i64 ((a : Nat) : Int), .int .i64 ((b : Nat) : Int)]) Try.func119 rfl rfl rfl ?_
  have H0 : UpG w [rowT (tyI .u8) (.slice da dn dc) 5 xs] w [[rowT (tyI .u8) (.slice da dn dc) 5 xs]] := (UpG.refl hp).re rfl
  show W _ _ _ _ [(0, .slice da dn dc), (1, .int .i64 ((a : Nat) : Int)), (2, .int .i64 ((b : Nat) : Int))] w
  refine W.seq ?_
  refine W.region ?_
  refine WL.op rfl (d_move rfl ?_)
  refine WL.op rfl (d_assign rfl ?_)
  refine WL.done (X.then_code ?_)
  refine W.seq ?_
  refine W.region ?_
  refine WL.op rfl (d_assign rfl ?_)
  refine WL.done (X.then_code ?_)
  refine W.seq ?_
  refine W.region ?_
  refine WL.op rfl (d_move rfl ?_)
  refine WL.op rfl (d_move rfl ?_)
  refine WL.op rfl (d_sub rfl rfl (by omega) (by omega) ?_)
  refine WL.op rfl (d_assign rfl ?_)
  refine WL.done (X.then_code ?_)
  refine W.seq ?_
  refine W.seq ?_
  refine W.region ?_
  refine WL.op rfl (d_move rfl ?_)
  refine WL.op rfl (d_sub rfl rfl (by omega) (by omega) ?_)
  refine WL.op rfl (d_quo rfl rfl (by omega) (by omega) (by omega) ?_)
  refine WL.op rfl (d_assign rfl ?_)
  refine WL.done (X.then_code ?_)
  refine W.block ?_
  refine W.pick [9, 8, 7, 6, 0] (Γ' := [(9, .int .i64 (((((b : Nat) : Int) - ((a : Nat) : Int)) - 1) / 2)), (8, .int .i64 (((b : Nat) : Int) - ((a : Nat) : Int))), (7, .int .i64 0), (6, .int .i64 ((a : Nat) : Int)), (0, .slice da dn dc)]) rfl ?_
  refine W.loop (fun m Γ' w' => ∃ i : Int, ∃ ys : List Int, Γ' = [(9, .int .i64 i), (8, .int .i64 (((b : Nat) : Int) - ((a : Nat) : Int))), (7, .int .i64 0), (6, .int .i64 ((a : Nat) : Int)), (0, .slice da dn dc)] ∧ UpG w [rowT (tyI .u8) (.slice da dn dc) 5 xs] w' [[rowT (tyI .u8) (.slice da dn dc) 5 ys]] ∧ (-1 ≤ i ∧ i ≤ (b : Int) - (a : Int)) ∧ (ys.length = xs.length) ∧ (Go.Sort.heapPop Go.Sort.ltInt a (b - a) (Go.Sort.heapBuild Go.Sort.ltInt (b - a) a (i + 1).toNat ys.toArray) = Go.Sort.heapSort Go.Sort.ltInt xs.toArray a b) ∧ m = (i + 1).toNat) (((((((b : Nat) : Int) - ((a : Nat) : Int)) - 1) / 2) + 1).toNat) ⟨((((b : Nat) : Int) - ((a : Nat) : Int)) - 1) / 2, xs, rfl, H0, (by omega), (by rfl), (by unfold Go.Sort.heapSort; congr 2; omega), rfl⟩ ?_
  rintro m1 Γ1 w1 ⟨i, ys, rfl, H1, hi, hzys, hI, rfl⟩
  refine W.seq ?_
  refine W.seq ?_
  refine W.region ?_
  refine WL.op rfl (d_move rfl ?_)
  refine WL.op rfl (d_cmp (decide (i ≥ (0 : Int))) rfl rfl rfl ?_)
  refine WL.done (X.then_code ?_)
  refine W.ite (p := i ≥ (0 : Int)) rfl (fun c46 => ?_) (fun c46 => ?_)
  · skip
    refine W.skip (X.then_code ?_)
    refine W.seq ?_
    refine W.block ?_
    refine W.region ?_
    refine WL.op rfl (d_move rfl ?_)
    refine WL.op rfl (d_move rfl ?_)
    refine WL.op rfl (d_move rfl ?_)
    refine WL.op rfl (d_move rfl ?_)
    refine WL.op rfl (d_call ok133 rfl (Ret.calls (sift8_any da ys dc dn i i.toNat (((b : Nat) : Int) - ((a : Nat) : Int)) (b - a) ((a : Nat) : Int) a w1 (H1.hpOf 0 rfl)  (by omega) (by omega) (by omega) (by first | omega | (simp only [List.length_set]; omega))) fun _ w2 p1 => ?_))
    obtain ⟨rfl, u1⟩ := p1
    have H2 : UpG w [rowT (tyI .u8) (.slice da dn dc) 5 xs] w2 [[rowT (tyI .u8) (.slice da dn dc) 5 ((Go.Sort.siftDown Go.Sort.ltInt (b - a) a i.toNat ys.toArray).toList)]] := H1.on 0 rfl u1
    refine WL.done (X.block_normal (X.then_code ?_))
    refine W.region ?_
    refine WL.op rfl (d_move rfl ?_)
    refine WL.op rfl (d_sub rfl rfl (by omega) (by omega) ?_)
    refine WL.op rfl (d_assign rfl ?_)
    refine WL.done ?_
    exact X.next [9, 8, 7, 6, 0] (Γ' := [(9, .int .i64 (i - 1)), (8, .int .i64 (((b : Nat) : Int) - ((a : Nat) : Int))), (7, .int .i64 0), (6, .int .i64 ((a : Nat) : Int)), (0, .slice da dn dc)]) rfl (((i - 1) + 1).toNat) (by omega) ⟨i - 1, (Go.Sort.siftDown Go.Sort.ltInt (b - a) a i.toNat ys.toArray).toList, rfl, H2, (by omega), (by rw [sift_len]; exact hzys), (by exact (congrArg (Go.Sort.heapPop Go.Sort.ltInt a (b - a)) (hb_go (by omega) (arr_list _).symm)).symm.trans hI), rfl⟩
  · skip
    refine W.exit (X.then_exit (X.then_exit (X.block_exit (X.then_code ?_))))
    refine W.seq ?_
    refine W.region ?_
    refine WL.op rfl (d_move rfl ?_)
    refine WL.op rfl (d_sub rfl rfl (by omega) (by omega) ?_)
    refine WL.op rfl (d_assign rfl ?_)
    refine WL.done (X.then_code ?_)
    refine W.block ?_
    refine W.pick [10, 7, 6, 0] (Γ' := [(10, .int .i64 ((((b : Nat) : Int) - ((a : Nat) : Int)) - 1)), (7, .int .i64 0), (6, .int .i64 ((a : Nat) : Int)), (0, .slice da dn dc)]) rfl ?_
    refine W.loop (fun m Γ' w' => ∃ j : Int, ∃ zs : List Int, Γ' = [(10, .int .i64 j), (7, .int .i64 0), (6, .int .i64 ((a : Nat) : Int)), (0, .slice da dn dc)] ∧ UpG w [rowT (tyI .u8) (.slice da dn dc) 5 xs] w' [[rowT (tyI .u8) (.slice da dn dc) 5 zs]] ∧ (-1 ≤ j ∧ j ≤ (b : Int) - (a : Int) - 1) ∧ (zs.length = xs.length) ∧ (Go.Sort.heapPop Go.Sort.ltInt a (j + 1).toNat zs.toArray = Go.Sort.heapSort Go.Sort.ltInt xs.toArray a b) ∧ m = (j + 1).toNat) ((((((b : Nat) : Int) - ((a : Nat) : Int)) - 1) + 1).toNat) ⟨(((b : Nat) : Int) - ((a : Nat) : Int)) - 1, ys, rfl, H1, (by omega), (by exact hzys), (by rw [← hI, hb_end (by omega)]; congr 1; omega), rfl⟩ ?_
    rintro m2 Γ2 w3 ⟨j, zs, rfl, H3, hj, hzzs, hJ, rfl⟩
    refine W.seq ?_
    refine W.seq ?_
    refine W.region ?_
    refine WL.op rfl (d_move rfl ?_)
    refine WL.op rfl (d_cmp (decide (j ≥ (0 : Int))) rfl rfl rfl ?_)
    refine WL.done (X.then_code ?_)
    refine W.ite (p := j ≥ (0 : Int)) rfl (fun c51 => ?_) (fun c51 => ?_)
    · skip
      refine W.skip (X.then_code ?_)
      refine W.seq ?_
      refine W.block ?_
      refine W.seq ?_
      refine W.regionD mixed (by kernel_rfl) fun hok1 w4 k1 => ?_
      have H4 : UpG w [rowT (tyI .u8) (.slice da dn dc) 5 xs] w4 [[rowT (tyI .u8) (.slice da dn dc) 5 zs]] := H3.kept k1
      refine WD.take hok1 0 (.slice da dn dc) (fun _ => True) rfl rfl rfl rfl rfl trivial (.inl ⟨rfl, fun _ _ => d_move rfl ⟨rfl, rfl⟩⟩) ?_
      refine WD.take hok1 1 (.int .i64 ((a : Nat) : Int)) (fun _ => True) rfl rfl rfl rfl rfl trivial (.inl ⟨rfl, fun _ _ => d_move rfl ⟨rfl, rfl⟩⟩) ?_
      refine WD.take hok1 2 (.slice da dn dc) (fun _ => True) rfl rfl rfl rfl rfl trivial (.inl ⟨rfl, fun _ _ => d_move rfl ⟨rfl, rfl⟩⟩) ?_
      refine WD.take hok1 3 (.int .i64 ((a : Nat) : Int)) (fun _ => True) rfl rfl rfl rfl rfl trivial (.inl ⟨rfl, fun _ _ => d_move rfl ⟨rfl, rfl⟩⟩) ?_
      refine WD.take hok1 4 (.int .i64 j) (fun _ => True) rfl rfl rfl rfl rfl trivial (.inl ⟨rfl, fun _ _ => d_move rfl ⟨rfl, rfl⟩⟩) ?_
      refine WD.take hok1 5 (.int .i64 (((a : Nat) : Int) + j)) (fun _ => True) rfl rfl rfl rfl rfl trivial (.inl ⟨rfl, fun _ _ => d_add rfl rfl (by omega) (by omega) ⟨rfl, rfl⟩⟩) ?_
      refine WD.take hok1 6 (.slice da dn dc) (fun _ => True) rfl rfl rfl rfl rfl trivial (.inl ⟨rfl, fun _ _ => d_move rfl ⟨rfl, rfl⟩⟩) ?_
      refine WD.take hok1 7 (.int .i64 ((a : Nat) : Int)) (fun _ => True) rfl rfl rfl rfl rfl trivial (.inl ⟨rfl, fun _ _ => d_move rfl ⟨rfl, rfl⟩⟩) ?_
      refine WD.take hok1 8 (.int .i64 j) (fun _ => True) rfl rfl rfl rfl rfl trivial (.inl ⟨rfl, fun _ _ => d_move rfl ⟨rfl, rfl⟩⟩) ?_
      refine WD.take hok1 9 (.int .i64 (((a : Nat) : Int) + j)) (fun _ => True) rfl rfl rfl rfl rfl trivial (.inl ⟨rfl, fun _ _ => d_add rfl rfl (by omega) (by omega) ⟨rfl, rfl⟩⟩) ?_
      refine WD.take hok1 10 (elemPtr (.slice da dn dc) (a + j.toNat)) (fun w' => RdT (tyI .u8) w' (.slice da dn dc) zs) rfl rfl rfl rfl rfl (H4.rdT 0 rfl) (.inl ⟨rfl, fun _ hC => t_addr1 (a + j.toNat) (T := (tyI .u8)) rfl Try.underlying85 sz5 rfl rfl hC (by first | omega | (simp only [List.length_set]; omega)) (by first | omega | (simp only [List.length_set]; omega)) ⟨rfl, rfl⟩⟩) ?_
      refine WD.take hok1 11 (.int .u8 (zs.getD (a + j.toNat) 0)) (fun w' => RdT (tyI .u8) w' (.slice da dn dc) zs) rfl rfl rfl rfl rfl (H4.rdT 0 rfl) (.inl ⟨rfl, fun _ hC => t_load1 (a + j.toNat) 0 (T := (tyI .u8)) rfl Try.underlying5 rfl rfl hC (by first | omega | (simp only [List.length_set]; omega)) rfl ⟨rfl, rfl⟩⟩) ?_
      refine WD.take hok1 12 (.slice da dn dc) (fun _ => True) rfl rfl rfl rfl rfl trivial (.inl ⟨rfl, fun _ _ => d_move rfl ⟨rfl, rfl⟩⟩) ?_
      refine WD.take hok1 13 (.int .i64 ((a : Nat) : Int)) (fun _ => True) rfl rfl rfl rfl rfl trivial (.inl ⟨rfl, fun _ _ => d_move rfl ⟨rfl, rfl⟩⟩) ?_
      refine WD.take hok1 14 (elemPtr (.slice da dn dc) a) (fun w' => RdT (tyI .u8) w' (.slice da dn dc) zs) rfl rfl rfl rfl rfl (H4.rdT 0 rfl) (.inl ⟨rfl, fun _ hC => t_addr1 a (T := (tyI .u8)) rfl Try.underlying85 sz5 rfl rfl hC (by first | omega | (simp only [List.length_set]; omega)) (by first | omega | (simp only [List.length_set]; omega)) ⟨rfl, rfl⟩⟩) ?_
      refine WD.take hok1 15 (.int .u8 (zs.getD a 0)) (fun w' => RdT (tyI .u8) w' (.slice da dn dc) zs) rfl rfl rfl rfl rfl (H4.rdT 0 rfl) (.inl ⟨rfl, fun _ hC => t_load1 a 0 (T := (tyI .u8)) rfl Try.underlying5 rfl rfl hC (by first | omega | (simp only [List.length_set]; omega)) rfl ⟨rfl, rfl⟩⟩) ?_
      refine WD.take hok1 16 (elemPtr (.slice da dn dc) a) (fun w' => RdT (tyI .u8) w' (.slice da dn dc) zs) rfl rfl rfl rfl rfl (H4.rdT 0 rfl) (.inl ⟨rfl, fun _ hC => t_addr1 a (T := (tyI .u8)) rfl Try.underlying85 sz5 rfl rfl hC (by first | omega | (simp only [List.length_set]; omega)) (by first | omega | (simp only [List.length_set]; omega)) ⟨rfl, rfl⟩⟩) ?_
      refine WD.loud hok1 17 rfl (⟨_, [⟨5, .int .i64 (((a : Nat) : Int) + j), (fun _ => True)⟩, ⟨4, .int .i64 j, (fun _ => True)⟩, ⟨3, .int .i64 ((a : Nat) : Int), (fun _ => True)⟩, ⟨2, .slice da dn dc, (fun _ => True)⟩], rfl, rfl, rfl, rfl, rfl, rfl, t_store1 a (zs.getD (a + j.toNat) 0) (T := (tyI .u8)) (e := 5) rfl sz5 rfl rfl rfl (H4.ownT 0 rfl) (by first | omega | (simp only [List.length_set]; omega)) fun w5 u2 => ?_⟩)
      have H5 : UpG w [rowT (tyI .u8) (.slice da dn dc) 5 xs] w5 [[rowT (tyI .u8) (.slice da dn dc) 5 (zs.set a (zs.getD (a + j.toNat) 0))]] := H4.on 0 rfl u2
      refine ⟨⟨trivial, trivial, trivial, trivial, trivial⟩, ?_⟩
      refine WD.take hok1 18 (elemPtr (.slice da dn dc) (a + j.toNat)) (fun w' => RdT (tyI .u8) w' (.slice da dn dc) (zs.set a (zs.getD (a + j.toNat) 0))) rfl rfl rfl rfl rfl (H5.rdT 0 rfl) (.inl ⟨rfl, fun _ hC => t_addr1 (a + j.toNat) (T := (tyI .u8)) rfl Try.underlying85 sz5 rfl rfl hC (by first | omega | (simp only [List.length_set]; omega)) (by first | omega | (simp only [List.length_set]; omega)) ⟨rfl, rfl⟩⟩) ?_
      refine WD.loud hok1 19 rfl (⟨_, [], rfl, rfl, rfl, rfl, rfl, rfl, t_store1 (a + j.toNat) (zs.getD a 0) (T := (tyI .u8)) (e := 5) rfl sz5 rfl rfl rfl (H5.ownT 0 rfl) (by first | omega | (simp only [List.length_set]; omega)) fun w6 u3 => ?_⟩)
      have H6 : UpG w [rowT (tyI .u8) (.slice da dn dc) 5 xs] w6 [[rowT (tyI .u8) (.slice da dn dc) 5 ((zs.set a (zs.getD (a + j.toNat) 0)).set (a + j.toNat) (zs.getD a 0))]] := H5.on 0 rfl u3
      refine ⟨trivial, ?_⟩
      refine WD.done hok1 rfl (X.then_code ?_)
      refine W.region ?_
      refine WL.op rfl (d_move rfl ?_)
      refine WL.op rfl (d_move rfl ?_)
      refine WL.op rfl (d_move rfl ?_)
      refine WL.op rfl (d_move rfl ?_)
      refine WL.op rfl (d_call ok133 rfl (Ret.calls (sift8_any da ((zs.set a (zs.getD (a + j.toNat) 0)).set (a + j.toNat) (zs.getD a 0)) dc dn 0 0 j j.toNat ((a : Nat) : Int) a w6 (H6.hpOf 0 rfl)  (by omega) (by omega) (by omega) (by first | omega | (simp only [List.length_set]; omega))) fun _ w7 p2 => ?_))
      obtain ⟨rfl, u4⟩ := p2
      have H7 : UpG w [rowT (tyI .u8) (.slice da dn dc) 5 xs] w7 [[rowT (tyI .u8) (.slice da dn dc) 5 ((Go.Sort.siftDown Go.Sort.ltInt j.toNat a 0 ((zs.set a (zs.getD (a + j.toNat) 0)).set (a + j.toNat) (zs.getD a 0)).toArray).toList)]] := H6.on 0 rfl u4
      refine WL.done (X.block_normal (X.then_code ?_))
      refine W.region ?_
      refine WL.op rfl (d_move rfl ?_)
      refine WL.op rfl (d_sub rfl rfl (by omega) (by omega) ?_)
      refine WL.op rfl (d_assign rfl ?_)
      refine WL.done ?_
      exact X.next [10, 7, 6, 0] (Γ' := [(10, .int .i64 (j - 1)), (7, .int .i64 0), (6, .int .i64 ((a : Nat) : Int)), (0, .slice da dn dc)]) rfl (((j - 1) + 1).toNat) (by omega) ⟨j - 1, (Go.Sort.siftDown Go.Sort.ltInt j.toNat a 0 ((zs.set a (zs.getD (a + j.toNat) 0)).set (a + j.toNat) (zs.getD a 0)).toArray).toList, rfl, H7, (by omega), (by rw [sift_len, sw_len']; exact hzzs), (by exact (hp_go (by omega) (arr_list _).symm).symm.trans hJ), rfl⟩
    · skip
      refine W.exit (X.then_exit (X.then_exit (X.block_exit (X.end0 rfl ?_))))
      have e : (Go.Sort.heapSort Go.Sort.ltInt xs.toArray a b).toList = zs := by rw [← hJ, hp_end (by omega)]
      rw [e]
      exact ⟨rfl, (Upd.sel H3 (l := [0]) rfl rfl)⟩
end Go.Proofs.Ytoeockpkkmgieaa
