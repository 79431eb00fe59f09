/- The walks of functions, printed by wip/tools/gw.py. -/
import Derived.Test.YtoeockpkkmgieaaF2
import Derived.Test.YtoeockpkkmgieaaSx7
import Derived.Test.YtoeockpkkmgieaaS1
namespace Go.Proofs.Ytoeockpkkmgieaa
open Go Go.Sx
set_option linter.unusedVariables false
set_option linter.unusedSimpArgs false
set_option maxRecDepth 20000 in
theorem order8_any (dataa : Option Addr) (data : List Int) (datac : Nat) (datan : Nat) (a : Int) (b : Int) (sg : Nat) (s : Int) (w : World) (hp : Hp w [blk sg #[.int .i64 s] 3]) (rdata : RdT (tyI .u8) w (.slice dataa datan datac) data) (hsep : ∀ g, Value.blk? (.slice dataa datan datac) = some g → g ≠ sg) (hr : (0 ≤ a ∧ a < (data.length : Int)) ∧ (0 ≤ b ∧ b < (data.length : Int))) (hsb : 0 ≤ s ∧ s ≤ 1000000) :
    Calls Try.prog 138 #[.slice dataa datan datac, .int .i64 a, .int .i64 b, .pointer (some ⟨sg, 0, none⟩)] w (Ret fun v w' => ∃ m1 : Int, ∃ m2 : Int, ∃ s2 : Int, v = .tuple #[.int .i64 m1, .int .i64 m2] ∧ Upd w [blk sg #[.int .i64 s] 3] w' [blk sg #[.int .i64 s2] 3] ∧ ((m1 = a ∧ m2 = b ∨ m1 = b ∧ m2 = a) ∧ s ≤ s2 ∧ s2 ≤ s + 1)) := by
  obtain rfl : datan = data.length := rdata.len
  have le_rdata := rdata.le
  refine calls_of_W (args := [.slice dataa data.length datac, .int .i64 a, .int .i64 b, .pointer (some ⟨sg, 0, none⟩)]) Try.func138 rfl rfl rfl ?_
  have H0 : UpG w [blk sg #[.int .i64 s] 3] w [[blk sg #[.int .i64 s] 3]] := (UpG.refl hp).re rfl
  show W _ _ _ _ [(0, .slice dataa data.length datac), (1, .int .i64 a), (2, .int .i64 b), (3, .pointer (some ⟨sg, 0, none⟩))] w
  refine W.seq ?_
  refine W.region ?_
  refine WL.op rfl (d_assign rfl ?_)
  refine WL.op rfl (d_assign rfl ?_)
  refine WL.done (X.then_code ?_)
  refine W.seq ?_
  refine W.seq ?_
  refine W.regionD mixed (by kernel_rfl) fun hok1 w1 k1 => ?_
  have H1 : UpG w [blk sg #[.int .i64 s] 3] w1 [[blk sg #[.int .i64 s] 3]] := H0.kept k1
  refine WD.take hok1 0 (.slice dataa data.length datac) (fun _ => True) rfl rfl rfl rfl rfl trivial (.inl ⟨rfl, fun _ _ => d_move rfl ⟨rfl, rfl⟩⟩) ?_
  refine WD.take hok1 1 (.int .i64 b) (fun _ => True) rfl rfl rfl rfl rfl trivial (.inl ⟨rfl, fun _ _ => d_move rfl ⟨rfl, rfl⟩⟩) ?_
  refine WD.take hok1 2 (elemPtr (.slice dataa data.length datac) b.toNat) (fun w' => RdT (tyI .u8) w' (.slice dataa data.length datac) data) rfl rfl rfl rfl rfl (rdata.keep H1.keep (by intro g hg; simp only [ats, blk, List.flatMap_cons, List.flatMap_nil, List.append_nil, List.mem_singleton]; exact hsep g hg)) (.inl ⟨rfl, fun _ hC => t_addr1 b.toNat (T := (tyI .u8)) rfl Try.underlying85 sz5 rfl rfl hC (by omega) (by omega) ⟨rfl, rfl⟩⟩) ?_
  refine WD.take hok1 3 (.int .u8 (data.getD b.toNat 0)) (fun w' => RdT (tyI .u8) w' (.slice dataa data.length datac) data) rfl rfl rfl rfl rfl (rdata.keep H1.keep (by intro g hg; simp only [ats, blk, List.flatMap_cons, List.flatMap_nil, List.append_nil, List.mem_singleton]; exact hsep g hg)) (.inl ⟨rfl, fun _ hC => t_load1 b.toNat 0 (T := (tyI .u8)) rfl Try.underlying5 rfl rfl hC (by omega) rfl ⟨rfl, rfl⟩⟩) ?_
  refine WD.take hok1 4 (.slice dataa data.length datac) (fun _ => True) rfl rfl rfl rfl rfl trivial (.inl ⟨rfl, fun _ _ => d_move rfl ⟨rfl, rfl⟩⟩) ?_
  refine WD.take hok1 5 (.int .i64 a) (fun _ => True) rfl rfl rfl rfl rfl trivial (.inl ⟨rfl, fun _ _ => d_move rfl ⟨rfl, rfl⟩⟩) ?_
  refine WD.take hok1 6 (elemPtr (.slice dataa data.length datac) a.toNat) (fun w' => RdT (tyI .u8) w' (.slice dataa data.length datac) data) rfl rfl rfl rfl rfl (rdata.keep H1.keep (by intro g hg; simp only [ats, blk, List.flatMap_cons, List.flatMap_nil, List.append_nil, List.mem_singleton]; exact hsep g hg)) (.inl ⟨rfl, fun _ hC => t_addr1 a.toNat (T := (tyI .u8)) rfl Try.underlying85 sz5 rfl rfl hC (by omega) (by omega) ⟨rfl, rfl⟩⟩) ?_
  refine WD.take hok1 7 (.int .u8 (data.getD a.toNat 0)) (fun w' => RdT (tyI .u8) w' (.slice dataa data.length datac) data) rfl rfl rfl rfl rfl (rdata.keep H1.keep (by intro g hg; simp only [ats, blk, List.flatMap_cons, List.flatMap_nil, List.append_nil, List.mem_singleton]; exact hsep g hg)) (.inl ⟨rfl, fun _ hC => t_load1 a.toNat 0 (T := (tyI .u8)) rfl Try.underlying5 rfl rfl hC (by omega) rfl ⟨rfl, rfl⟩⟩) ?_
  refine WD.loud hok1 8 rfl (⟨_, [], rfl, rfl, rfl, rfl, rfl, rfl, d_call ok124 rfl (Ret.calls (less8_any (data.getD b.toNat 0) (data.getD a.toNat 0) w1  ) fun _ w2 p1 => ?_)⟩)
  obtain ⟨rfl, u1⟩ := p1
  have H2 : UpG w [blk sg #[.int .i64 s] 3] w2 [[blk sg #[.int .i64 s] 3]] := H1.call u1
  refine ⟨trivial, ?_⟩
  refine WD.done hok1 rfl (X.then_code ?_)
  refine W.ite (p := (data.getD b.toNat 0) < (data.getD a.toNat 0)) rfl (fun c301 => ?_) (fun c301 => ?_)
  · skip
    refine W.seq ?_
    refine W.region ?_
    refine WL.op rfl (d_move rfl ?_)
    refine WL.op rfl (d_nilCheck rfl ?_)
    refine WL.op rfl (d_loadB Try.underlying3 rfl rfl (H2.blk 0 rfl) rfl ?_)
    refine WL.op rfl (d_add rfl rfl (by omega) (by omega) ?_)
    refine WL.op rfl (d_nilCheck rfl ?_)
    refine WL.op0 (d_storeB sz3 rfl rfl rfl (H2.blk 0 rfl) rfl fun w3 u2 => ?_)
    have H3 : UpG w [blk sg #[.int .i64 s] 3] w3 [[blk sg #[.int .i64 (s + 1)] 3]] := H2.on 0 rfl u2
    refine WL.done (X.then_code ?_)
    refine W.seq ?_
    refine W.region ?_
    refine WL.op rfl (d_move rfl ?_)
    refine WL.op rfl (d_move rfl ?_)
    refine WL.op rfl (d_assign rfl ?_)
    refine WL.op rfl (d_assign rfl ?_)
    refine WL.done (X.then_code ?_)
    refine W.ret (X.then_ret (X.ret2 rfl rfl rfl ?_))
    exact ⟨b, a, s + 1, rfl, (Upd.sel H3 (l := [0]) rfl rfl), (by omega)⟩
  · skip
    refine W.skip (X.then_code ?_)
    refine W.seq ?_
    refine W.region ?_
    refine WL.op rfl (d_move rfl ?_)
    refine WL.op rfl (d_move rfl ?_)
    refine WL.op rfl (d_assign rfl ?_)
    refine WL.op rfl (d_assign rfl ?_)
    refine WL.done (X.then_code ?_)
    refine W.ret (X.ret2 rfl rfl rfl ?_)
    exact ⟨a, b, s, rfl, (Upd.sel H2 (l := [0]) rfl rfl), (by omega)⟩

set_option maxRecDepth 20000 in
theorem median8_any (dataa : Option Addr) (data : List Int) (datac : Nat) (datan : Nat) (a : Int) (b : Int) (c : Int) (sg : Nat) (s : Int) (w : World) (hp : Hp w [blk sg #[.int .i64 s] 3]) (rdata : RdT (tyI .u8) w (.slice dataa datan datac) data) (hsep : ∀ g, Value.blk? (.slice dataa datan datac) = some g → g ≠ sg) (hr : (0 ≤ a ∧ a < (data.length : Int)) ∧ (0 ≤ b ∧ b < (data.length : Int)) ∧ (0 ≤ c ∧ c < (data.length : Int))) (hsb : 0 ≤ s ∧ s ≤ 100000) :
    Calls Try.prog 135 #[.slice dataa datan datac, .int .i64 a, .int .i64 b, .int .i64 c, .pointer (some ⟨sg, 0, none⟩)] w (Ret fun v w' => ∃ m : Int, ∃ s2 : Int, v = .int .i64 m ∧ Upd w [blk sg #[.int .i64 s] 3] w' [blk sg #[.int .i64 s2] 3] ∧ ((m = a ∨ m = b ∨ m = c) ∧ s ≤ s2 ∧ s2 ≤ s + 3)) := by
  obtain rfl : datan = data.length := rdata.len
  have le_rdata := rdata.le
  refine calls_of_W (args := [.slice dataa data.length datac, .int .i64 a, .int .i64 b, .int .i64 c, .pointer (some ⟨sg, 0, none⟩)]) Try.func135 rfl rfl rfl ?_
  have H0 : UpG w [blk sg #[.int .i64 s] 3] w [[blk sg #[.int .i64 s] 3]] := (UpG.refl hp).re rfl
  show W _ _ _ _ [(0, .slice dataa data.length datac), (1, .int .i64 a), (2, .int .i64 b), (3, .int .i64 c), (4, .pointer (some ⟨sg, 0, none⟩))] w
  refine W.seq ?_
  refine W.region ?_
  refine WL.op rfl (d_assign rfl ?_)
  refine WL.done (X.then_code ?_)
  refine W.seq ?_
  refine W.region ?_
  refine WL.op rfl (d_move rfl ?_)
  refine WL.op rfl (d_move rfl ?_)
  refine WL.op rfl (d_move rfl ?_)
  refine WL.op rfl (d_move rfl ?_)
  refine WL.op rfl (d_call ok138 rfl (Ret.calls (order8_any dataa data datac data.length a b sg s w (H0.hpOf 0 rfl) (rdata.keep H0.keep (by intro g hg; simp only [ats, blk, List.flatMap_cons, List.flatMap_nil, List.append_nil, List.mem_singleton]; exact hsep g hg)) hsep (by omega) (by omega)) fun _ w1 p1 => ?_))
  obtain ⟨m1_1, m2_1, s2_1, rfl, u1, q1⟩ := p1
  have H1 : UpG w [blk sg #[.int .i64 s] 3] w1 [[blk sg #[.int .i64 s2_1] 3]] := H0.on 0 rfl u1
  refine WL.op rfl (d_move rfl ?_)
  refine WL.op rfl (d_extract rfl rfl ?_)
  refine WL.op rfl (d_extract rfl rfl ?_)
  refine WL.op rfl (d_assign rfl ?_)
  refine WL.op rfl (d_assign rfl ?_)
  refine WL.done (X.then_code ?_)
  refine W.seq ?_
  refine W.region ?_
  refine WL.op rfl (d_move rfl ?_)
  refine WL.op rfl (d_move rfl ?_)
  refine WL.op rfl (d_move rfl ?_)
  refine WL.op rfl (d_move rfl ?_)
  refine WL.op rfl (d_call ok138 rfl (Ret.calls (order8_any dataa data datac data.length m2_1 c sg s2_1 w1 (H1.hpOf 0 rfl) (rdata.keep H1.keep (by intro g hg; simp only [ats, blk, List.flatMap_cons, List.flatMap_nil, List.append_nil, List.mem_singleton]; exact hsep g hg)) hsep (by omega) (by omega)) fun _ w2 p2 => ?_))
  obtain ⟨m1_2, m2_2, s2_2, rfl, u2, q2⟩ := p2
  have H2 : UpG w [blk sg #[.int .i64 s] 3] w2 [[blk sg #[.int .i64 s2_2] 3]] := H1.on 0 rfl u2
  refine WL.op rfl (d_move rfl ?_)
  refine WL.op rfl (d_extract rfl rfl ?_)
  refine WL.op rfl (d_extract rfl rfl ?_)
  refine WL.op rfl (d_assign rfl ?_)
  refine WL.op rfl (d_assign rfl ?_)
  refine WL.done (X.then_code ?_)
  refine W.seq ?_
  refine W.region ?_
  refine WL.op rfl (d_move rfl ?_)
  refine WL.op rfl (d_move rfl ?_)
  refine WL.op rfl (d_move rfl ?_)
  refine WL.op rfl (d_move rfl ?_)
  refine WL.op rfl (d_call ok138 rfl (Ret.calls (order8_any dataa data datac data.length m1_1 m1_2 sg s2_2 w2 (H2.hpOf 0 rfl) (rdata.keep H2.keep (by intro g hg; simp only [ats, blk, List.flatMap_cons, List.flatMap_nil, List.append_nil, List.mem_singleton]; exact hsep g hg)) hsep (by omega) (by omega)) fun _ w3 p3 => ?_))
  obtain ⟨m1_3, m2_3, s2_3, rfl, u3, q3⟩ := p3
  have H3 : UpG w [blk sg #[.int .i64 s] 3] w3 [[blk sg #[.int .i64 s2_3] 3]] := H2.on 0 rfl u3
  refine WL.op rfl (d_move rfl ?_)
  refine WL.op rfl (d_extract rfl rfl ?_)
  refine WL.op rfl (d_extract rfl rfl ?_)
  refine WL.op rfl (d_assign rfl ?_)
  refine WL.op rfl (d_assign rfl ?_)
  refine WL.done (X.then_code ?_)
  refine W.seq ?_
  refine W.region ?_
  refine WL.op rfl (d_move rfl ?_)
  refine WL.op rfl (d_assign rfl ?_)
  refine WL.done (X.then_code ?_)
  refine W.pick [10] (Γ' := [(10, .int .i64 m2_3)]) rfl ?_
  refine W.ret (X.ret1 rfl rfl ?_)
  exact ⟨m2_3, s2_3, rfl, (Upd.sel H3 (l := [0]) rfl rfl), (by omega)⟩

set_option maxRecDepth 20000 in
theorem medAdj8_any (dataa : Option Addr) (data : List Int) (datac : Nat) (datan : Nat) (a : Int) (sg : Nat) (s : Int) (w : World) (hp : Hp w [blk sg #[.int .i64 s] 3]) (rdata : RdT (tyI .u8) w (.slice dataa datan datac) data) (hsep : ∀ g, Value.blk? (.slice dataa datan datac) = some g → g ≠ sg) (hr : 1 ≤ a ∧ a + 1 < (data.length : Int)) (hsb : 0 ≤ s ∧ s ≤ 10000) :
    Calls Try.prog 134 #[.slice dataa datan datac, .int .i64 a, .pointer (some ⟨sg, 0, none⟩)] w (Ret fun v w' => ∃ m : Int, ∃ s2 : Int, v = .int .i64 m ∧ Upd w [blk sg #[.int .i64 s] 3] w' [blk sg #[.int .i64 s2] 3] ∧ ((a ≤ m + 1 ∧ m ≤ a + 1) ∧ s ≤ s2 ∧ s2 ≤ s + 3)) := by
  obtain rfl : datan = data.length := rdata.len
  have le_rdata := rdata.le
  refine calls_of_W (args := [.slice dataa data.length datac, .int .i64 a, .pointer (some ⟨sg, 0, none⟩)]) Try.func134 rfl rfl rfl ?_
  have H0 : UpG w [blk sg #[.int .i64 s] 3] w [[blk sg #[.int .i64 s] 3]] := (UpG.refl hp).re rfl
  show W _ _ _ _ [(0, .slice dataa data.length datac), (1, .int .i64 a), (2, .pointer (some ⟨sg, 0, none⟩))] w
  refine W.seq ?_
  refine W.region ?_
  refine WL.op rfl (d_assign rfl ?_)
  refine WL.done (X.then_code ?_)
  refine W.seq ?_
  refine W.region ?_
  refine WL.op rfl (d_move rfl ?_)
  refine WL.op rfl (d_move rfl ?_)
  refine WL.op rfl (d_sub rfl rfl (by omega) (by omega) ?_)
  refine WL.op rfl (d_move rfl ?_)
  refine WL.op rfl (d_move rfl ?_)
  refine WL.op rfl (d_add rfl rfl (by omega) (by omega) ?_)
  refine WL.op rfl (d_move rfl ?_)
  refine WL.op rfl (d_call ok135 rfl (Ret.calls (median8_any dataa data datac data.length (a - 1) a (a + 1) sg s w (H0.hpOf 0 rfl) (rdata.keep H0.keep (by intro g hg; simp only [ats, blk, List.flatMap_cons, List.flatMap_nil, List.append_nil, List.mem_singleton]; exact hsep g hg)) hsep (by omega) (by omega)) fun _ w1 p1 => ?_))
  obtain ⟨m_1, s2_1, rfl, u1, q1⟩ := p1
  have H1 : UpG w [blk sg #[.int .i64 s] 3] w1 [[blk sg #[.int .i64 s2_1] 3]] := H0.on 0 rfl u1
  refine WL.op rfl (d_assign rfl ?_)
  refine WL.done (X.then_code ?_)
  refine W.ret (X.ret1 rfl rfl ?_)
  exact ⟨m_1, s2_1, rfl, (Upd.sel H1 (l := [0]) rfl rfl), (by omega)⟩

set_option maxRecDepth 20000 in
theorem pivot8_any (dataa : Option Addr) (data : List Int) (datac : Nat) (datan : Nat) (aI : Int) (a : Nat) (bI : Int) (b : Nat) (w : World) (rdata : RdT (tyI .u8) w (.slice dataa datan datac) data) (e_a : aI = ((a : Nat) : Int)) (e_b : bI = ((b : Nat) : Int)) (hab : a < b ∧ b ≤ data.length ∧ data.length ≤ 1000000) :
    Calls Try.prog 121 #[.slice dataa datan datac, .int .i64 aI, .int .i64 bI] w (Ret fun v w' => ∃ p : Int, ∃ h : Int, v = .tuple #[.int .i64 p, .int .i64 h] ∧ Upd w [] w' [] ∧ ((a : Int) ≤ p ∧ p < (b : Int))) := by
  obtain rfl : datan = data.length := rdata.len
  subst e_a
  subst e_b
  have le_rdata := rdata.le
  refine calls_of_W (args := [.slice dataa data.length datac, .int .i64 ((a : Nat) : Int), .int .i64 ((b : Nat) : Int)]) Try.func121 rfl rfl rfl ?_
  have H0 : UpG w [] w [] := UpG.nil w
  show W _ _ _ _ [(0, .slice dataa data.length datac), (1, .int .i64 ((a : Nat) : Int)), (2, .int .i64 ((b : Nat) : Int))] w
  refine W.seq ?_
  refine W.region ?_
  refine WL.op rfl (d_assign rfl ?_)
  refine WL.op rfl (d_assign rfl ?_)
  refine WL.done (X.then_code ?_)
  refine W.seq ?_
  refine W.region ?_
  refine WL.op rfl (d_move rfl ?_)
  refine WL.op rfl (d_move rfl ?_)
  refine WL.op rfl (d_sub rfl rfl (by omega) (by omega) ?_)
  refine WL.op rfl (d_assign rfl ?_)
  refine WL.done (X.then_code ?_)
  refine W.seq ?_
  refine W.region ?_
  refine WL.op rfl (d_alloc sz3 fun w1 u1 => ?_)
  have H1 : UpG w [] w1 [[blk w.heap.size #[.int .i64 0] 3]] := H0.new' u1
  refine WL.done (X.then_code ?_)
  refine W.seq ?_
  have hsp : ∀ g, Value.blk? (.slice dataa data.length datac) = some g → g ≠ w.heap.size := sep_new rdata (by omega) (by have := H1.size; omega)
  refine W.region ?_
  refine WL.op rfl (d_move rfl ?_)
  refine WL.op rfl (d_move rfl ?_)
  refine WL.op rfl (d_quo rfl rfl (by omega) (by omega) (by omega) ?_)
  refine WL.op rfl (d_mul rfl rfl (by omega) (by omega) ?_)
  refine WL.op rfl (d_add rfl rfl (by omega) (by omega) ?_)
  refine WL.op rfl (d_assign rfl ?_)
  refine WL.done (X.then_code ?_)
  refine W.seq ?_
  refine W.region ?_
  refine WL.op rfl (d_move rfl ?_)
  refine WL.op rfl (d_move rfl ?_)
  refine WL.op rfl (d_quo rfl rfl (by omega) (by omega) (by omega) ?_)
  refine WL.op rfl (d_mul rfl rfl (by omega) (by omega) ?_)
  refine WL.op rfl (d_add rfl rfl (by omega) (by omega) ?_)
  refine WL.op rfl (d_assign rfl ?_)
  refine WL.done (X.then_code ?_)
  refine W.seq ?_
  refine W.region ?_
  refine WL.op rfl (d_move rfl ?_)
  refine WL.op rfl (d_move rfl ?_)
  refine WL.op rfl (d_quo rfl rfl (by omega) (by omega) (by omega) ?_)
  refine WL.op rfl (d_mul rfl rfl (by omega) (by omega) ?_)
  refine WL.op rfl (d_add rfl rfl (by omega) (by omega) ?_)
  refine WL.op rfl (d_assign rfl ?_)
  refine WL.done (X.then_code ?_)
  refine W.seq ?_
  refine W.seq ?_
  refine W.region ?_
  refine WL.op rfl (d_move rfl ?_)
  refine WL.op rfl (d_cmp (decide ((((b : Nat) : Int) - ((a : Nat) : Int)) ≥ (8 : Int))) rfl rfl rfl ?_)
  refine WL.done (X.then_code ?_)
  refine W.ite (p := (((b : Nat) : Int) - ((a : Nat) : Int)) ≥ (8 : Int)) rfl (fun c278 => ?_) (fun c278 => ?_)
  · skip
    refine W.seq ?_
    refine W.seq ?_
    refine W.region ?_
    refine WL.op rfl (d_move rfl ?_)
    refine WL.op rfl (d_cmp (decide ((((b : Nat) : Int) - ((a : Nat) : Int)) ≥ (50 : Int))) rfl rfl rfl ?_)
    refine WL.done (X.then_code ?_)
    refine W.pick [34, 12, 11, 10, 9, 7, 6, 0] (Γ' := [(34, .bool (decide ((((b : Nat) : Int) - ((a : Nat) : Int)) ≥ (50 : Int)))), (12, .int .i64 (((a : Nat) : Int) + (((((b : Nat) : Int) - ((a : Nat) : Int)) / 4) * 3))), (11, .int .i64 (((a : Nat) : Int) + (((((b : Nat) : Int) - ((a : Nat) : Int)) / 4) * 2))), (10, .int .i64 (((a : Nat) : Int) + (((((b : Nat) : Int) - ((a : Nat) : Int)) / 4) * 1))), (9, .pointer (some ⟨w.heap.size, 0, none⟩)), (7, .int .i64 0), (6, .int .i64 0), (0, .slice dataa data.length datac)]) rfl ?_
    refine W.ite (p := (((b : Nat) : Int) - ((a : Nat) : Int)) ≥ (50 : Int)) rfl (fun c279 => ?_) (fun c279 => ?_)
    · skip
      refine W.seq ?_
      refine W.region ?_
      refine WL.op rfl (d_move rfl ?_)
      refine WL.op rfl (d_move rfl ?_)
      refine WL.op rfl (d_call ok134 rfl (Ret.calls (medAdj8_any dataa data datac data.length (((a : Nat) : Int) + (((((b : Nat) : Int) - ((a : Nat) : Int)) / 4) * 1)) w.heap.size 0 w1 (H1.hpOf 0 rfl) (rdata.at H1) hsp (by omega) (by omega)) fun _ w2 p1 => ?_))
      obtain ⟨m_1, s2_1, rfl, u2, q1⟩ := p1
      have H2 : UpG w [] w2 [[blk w.heap.size #[.int .i64 s2_1] 3]] := H1.on 0 rfl u2
      refine WL.op rfl (d_assign rfl ?_)
      refine WL.done (X.then_code ?_)
      refine W.seq ?_
      refine W.region ?_
      refine WL.op rfl (d_move rfl ?_)
      refine WL.op rfl (d_move rfl ?_)
      refine WL.op rfl (d_call ok134 rfl (Ret.calls (medAdj8_any dataa data datac data.length (((a : Nat) : Int) + (((((b : Nat) : Int) - ((a : Nat) : Int)) / 4) * 2)) w.heap.size s2_1 w2 (H2.hpOf 0 rfl) (rdata.at H2) hsp (by omega) (by omega)) fun _ w3 p2 => ?_))
      obtain ⟨m_2, s2_2, rfl, u3, q2⟩ := p2
      have H3 : UpG w [] w3 [[blk w.heap.size #[.int .i64 s2_2] 3]] := H2.on 0 rfl u3
      refine WL.op rfl (d_assign rfl ?_)
      refine WL.done (X.then_code ?_)
      refine W.region ?_
      refine WL.op rfl (d_move rfl ?_)
      refine WL.op rfl (d_move rfl ?_)
      refine WL.op rfl (d_call ok134 rfl (Ret.calls (medAdj8_any dataa data datac data.length (((a : Nat) : Int) + (((((b : Nat) : Int) - ((a : Nat) : Int)) / 4) * 3)) w.heap.size s2_2 w3 (H3.hpOf 0 rfl) (rdata.at H3) hsp (by omega) (by omega)) fun _ w4 p3 => ?_))
      obtain ⟨m_3, s2_3, rfl, u4, q3⟩ := p3
      have H4 : UpG w [] w4 [[blk w.heap.size #[.int .i64 s2_3] 3]] := H3.on 0 rfl u4
      refine WL.op rfl (d_assign rfl ?_)
      refine WL.done (X.then_code ?_)
      refine W.region ?_
      refine WL.op rfl (d_move rfl ?_)
      refine WL.op rfl (d_move rfl ?_)
      refine WL.op rfl (d_move rfl ?_)
      refine WL.op rfl (d_move rfl ?_)
      refine WL.op rfl (d_call ok135 rfl (Ret.calls (median8_any dataa data datac data.length m_1 m_2 m_3 w.heap.size s2_3 w4 (H4.hpOf 0 rfl) (rdata.at H4) hsp (by omega) (by omega)) fun _ w5 p4 => ?_))
      obtain ⟨m_4, s2_4, rfl, u5, q4⟩ := p4
      have H5 : UpG w [] w5 [[blk w.heap.size #[.int .i64 s2_4] 3]] := H4.on 0 rfl u5
      refine WL.op rfl (d_assign rfl ?_)
      refine WL.done (X.then_code ?_)
      refine W.seq ?_
      refine W.region ?_
      refine WL.op rfl (d_loadB Try.underlying3 rfl rfl (H5.blk 0 rfl) rfl ?_)
      refine WL.done (X.then_code ?_)
      refine W.block ?_
      refine W.seq ?_
      refine W.region ?_
      refine WL.op rfl (d_cmp (decide (s2_4 = (0 : Int))) rfl rfl rfl ?_)
      refine WL.op rfl (d_assign rfl ?_)
      refine WL.done (X.then_code ?_)
      refine W.ite (p := s2_4 = (0 : Int)) rfl (fun c290 => ?_) (fun c290 => ?_)
      · skip
        refine W.seq ?_
        refine W.region ?_
        refine WL.op rfl (d_move rfl ?_)
        refine WL.op rfl (d_assign rfl ?_)
        refine WL.op rfl (d_assign rfl ?_)
        refine WL.done (X.then_code ?_)
        refine W.ret (X.block_ret (X.ret2 rfl rfl rfl ?_))
        exact ⟨m_4, 1, rfl, H5.noneL, (by omega)⟩
      · skip
        refine W.seq ?_
        refine W.region ?_
        refine WL.op rfl (d_cmp (decide (s2_4 = (12 : Int))) rfl rfl rfl ?_)
        refine WL.op rfl (d_assign rfl ?_)
        refine WL.done (X.then_code ?_)
        refine W.ite (p := s2_4 = (12 : Int)) rfl (fun c292 => ?_) (fun c292 => ?_)
        · skip
          refine W.seq ?_
          refine W.region ?_
          refine WL.op rfl (d_move rfl ?_)
          refine WL.op rfl (d_assign rfl ?_)
          refine WL.op rfl (d_assign rfl ?_)
          refine WL.done (X.then_code ?_)
          refine W.ret (X.block_ret (X.ret2 rfl rfl rfl ?_))
          exact ⟨m_4, 2, rfl, H5.noneL, (by omega)⟩
        · skip
          refine W.seq ?_
          refine W.region ?_
          refine WL.op rfl (d_move rfl ?_)
          refine WL.op rfl (d_assign rfl ?_)
          refine WL.op rfl (d_assign rfl ?_)
          refine WL.done (X.then_code ?_)
          refine W.ret (X.block_ret (X.ret2 rfl rfl rfl ?_))
          exact ⟨m_4, 0, rfl, H5.noneL, (by omega)⟩
    · skip
      refine W.skip (X.then_code ?_)
      refine W.region ?_
      refine WL.op rfl (d_move rfl ?_)
      refine WL.op rfl (d_move rfl ?_)
      refine WL.op rfl (d_move rfl ?_)
      refine WL.op rfl (d_move rfl ?_)
      refine WL.op rfl (d_call ok135 rfl (Ret.calls (median8_any dataa data datac data.length (((a : Nat) : Int) + (((((b : Nat) : Int) - ((a : Nat) : Int)) / 4) * 1)) (((a : Nat) : Int) + (((((b : Nat) : Int) - ((a : Nat) : Int)) / 4) * 2)) (((a : Nat) : Int) + (((((b : Nat) : Int) - ((a : Nat) : Int)) / 4) * 3)) w.heap.size 0 w1 (H1.hpOf 0 rfl) (rdata.at H1) hsp (by omega) (by omega)) fun _ w6 p5 => ?_))
      obtain ⟨m_5, s2_5, rfl, u6, q5⟩ := p5
      have H6 : UpG w [] w6 [[blk w.heap.size #[.int .i64 s2_5] 3]] := H1.on 0 rfl u6
      refine WL.op rfl (d_assign rfl ?_)
      refine WL.done (X.then_code ?_)
      refine W.seq ?_
      refine W.region ?_
      refine WL.op rfl (d_loadB Try.underlying3 rfl rfl (H6.blk 0 rfl) rfl ?_)
      refine WL.done (X.then_code ?_)
      refine W.block ?_
      refine W.seq ?_
      refine W.region ?_
      refine WL.op rfl (d_cmp (decide (s2_5 = (0 : Int))) rfl rfl rfl ?_)
      refine WL.op rfl (d_assign rfl ?_)
      refine WL.done (X.then_code ?_)
      refine W.ite (p := s2_5 = (0 : Int)) rfl (fun c290 => ?_) (fun c290 => ?_)
      · skip
        refine W.seq ?_
        refine W.region ?_
        refine WL.op rfl (d_move rfl ?_)
        refine WL.op rfl (d_assign rfl ?_)
        refine WL.op rfl (d_assign rfl ?_)
        refine WL.done (X.then_code ?_)
        refine W.ret (X.block_ret (X.ret2 rfl rfl rfl ?_))
        exact ⟨m_5, 1, rfl, H6.noneL, (by omega)⟩
      · skip
        refine W.seq ?_
        refine W.region ?_
        refine WL.op rfl (d_cmp (decide (s2_5 = (12 : Int))) rfl rfl rfl ?_)
        refine WL.op rfl (d_assign rfl ?_)
        refine WL.done (X.then_code ?_)
        refine W.ite (p := s2_5 = (12 : Int)) rfl (fun c292 => ?_) (fun c292 => ?_)
        · skip
          refine W.seq ?_
          refine W.region ?_
          refine WL.op rfl (d_move rfl ?_)
          refine WL.op rfl (d_assign rfl ?_)
          refine WL.op rfl (d_assign rfl ?_)
          refine WL.done (X.then_code ?_)
          refine W.ret (X.block_ret (X.ret2 rfl rfl rfl ?_))
          exact ⟨m_5, 2, rfl, H6.noneL, (by omega)⟩
        · skip
          refine W.seq ?_
          refine W.region ?_
          refine WL.op rfl (d_move rfl ?_)
          refine WL.op rfl (d_assign rfl ?_)
          refine WL.op rfl (d_assign rfl ?_)
          refine WL.done (X.then_code ?_)
          refine W.ret (X.block_ret (X.ret2 rfl rfl rfl ?_))
          exact ⟨m_5, 0, rfl, H6.noneL, (by omega)⟩
  · skip
    refine W.skip (X.then_code ?_)
    refine W.seq ?_
    refine W.region ?_
    refine WL.op rfl (d_loadB Try.underlying3 rfl rfl (H1.blk 0 rfl) rfl ?_)
    refine WL.done (X.then_code ?_)
    refine W.pick [49, 11, 7, 6] (Γ' := [(49, .int .i64 0), (11, .int .i64 (((a : Nat) : Int) + (((((b : Nat) : Int) - ((a : Nat) : Int)) / 4) * 2))), (7, .int .i64 0), (6, .int .i64 0)]) rfl ?_
    refine W.block ?_
    refine W.seq ?_
    refine W.region ?_
    refine WL.op rfl (d_cmp true rfl rfl rfl ?_)
    refine WL.op rfl (d_assign rfl ?_)
    refine WL.done (X.then_code ?_)
    refine W.ift rfl ?_
    refine W.seq ?_
    refine W.region ?_
    refine WL.op rfl (d_move rfl ?_)
    refine WL.op rfl (d_assign rfl ?_)
    refine WL.op rfl (d_assign rfl ?_)
    refine WL.done (X.then_code ?_)
    refine W.ret (X.block_ret (X.ret2 rfl rfl rfl ?_))
    exact ⟨((a : Nat) : Int) + (((((b : Nat) : Int) - ((a : Nat) : Int)) / 4) * 2), 1, rfl, H1.noneL, (by omega)⟩

set_option maxRecDepth 20000 in
theorem next8_any (rg : Nat) (r : Int) (w : World) (hp : Hp w [blk rg #[.int .u64 r] 159]) :
    Calls Try.prog 129 #[.pointer (some ⟨rg, 0, none⟩)] w (Ret fun v w' => ∃ r2 : Int, v = .int .u64 r2 ∧ Upd w [blk rg #[.int .u64 r] 159] w' [blk rg #[.int .u64 r2] 159]) := by
  refine calls_of_W (args := [.pointer (some ⟨rg, 0, none⟩)]) Try.func129 rfl rfl rfl ?_
  have H0 : UpG w [blk rg #[.int .u64 r] 159] w [[blk rg #[.int .u64 r] 159]] := (UpG.refl hp).re rfl
  show W _ _ _ _ [(0, .pointer (some ⟨rg, 0, none⟩))] w
  refine W.seq ?_
  refine W.region ?_
  refine WL.op rfl (d_assign rfl ?_)
  refine WL.done (X.then_code ?_)
  refine W.seq ?_
  refine W.regionD mixed (by kernel_rfl) fun hok1 w1 k1 => ?_
  have H1 : UpG w [blk rg #[.int .u64 r] 159] w1 [[blk rg #[.int .u64 r] 159]] := H0.kept k1
  refine WD.take hok1 0 (.pointer (some ⟨rg, 0, none⟩)) (fun _ => True) rfl rfl rfl rfl rfl trivial (.inl ⟨rfl, fun _ _ => d_move rfl ⟨rfl, rfl⟩⟩) ?_
  refine WD.take hok1 1 (.pointer (some ⟨rg, 0, none⟩)) (fun _ => True) rfl rfl rfl rfl rfl trivial (.inl ⟨rfl, fun _ _ => d_nilCheck rfl ⟨rfl, rfl⟩⟩) ?_
  refine WD.take hok1 2 (.int .u64 r) (fun w' => w'.heap[rg]? = some (.cells #[.int .u64 r] 159 (0, 0))) rfl rfl rfl rfl rfl (H1.blk 0 rfl) (.inl ⟨rfl, fun _ hC => d_loadB Try.underlying159 rfl rfl hC rfl ⟨rfl, rfl⟩⟩) ?_
  refine WD.take hok1 3 (.pointer (some ⟨rg, 0, none⟩)) (fun _ => True) rfl rfl rfl rfl rfl trivial (.inl ⟨rfl, fun _ _ => d_move rfl ⟨rfl, rfl⟩⟩) ?_
  refine WD.take hok1 4 (.pointer (some ⟨rg, 0, none⟩)) (fun _ => True) rfl rfl rfl rfl rfl trivial (.inl ⟨rfl, fun _ _ => d_nilCheck rfl ⟨rfl, rfl⟩⟩) ?_
  refine WD.take hok1 5 (.int .u64 r) (fun w' => w'.heap[rg]? = some (.cells #[.int .u64 r] 159 (0, 0))) rfl rfl rfl rfl rfl (H1.blk 0 rfl) (.inl ⟨rfl, fun _ hC => d_loadB Try.underlying159 rfl rfl hC rfl ⟨rfl, rfl⟩⟩) ?_
  refine WD.take hok1 6 (.int .u64 (IntKind.u64.wrap (r * 2 ^ (min (13 : Int).toNat 64)))) (fun _ => True) rfl rfl rfl rfl rfl trivial (.inl ⟨rfl, fun _ _ => d_shl rfl rfl (by omega) ⟨rfl, rfl⟩⟩) ?_
  refine WD.take hok1 7 (.int .u64 (bitsOf .xor .u64 r (IntKind.u64.wrap (r * 2 ^ (min (13 : Int).toNat 64))))) (fun _ => True) rfl rfl rfl rfl rfl trivial (.inl ⟨rfl, fun _ _ => d_bits (bitsOf .xor .u64 r (IntKind.u64.wrap (r * 2 ^ (min (13 : Int).toNat 64)))) rfl rfl rfl ⟨rfl, rfl⟩⟩) ?_
  refine WD.take hok1 8 (.pointer (some ⟨rg, 0, none⟩)) (fun _ => True) rfl rfl rfl rfl rfl trivial (.inl ⟨rfl, fun _ _ => d_nilCheck rfl ⟨rfl, rfl⟩⟩) ?_
  refine WD.loud hok1 9 rfl (⟨_, [], rfl, rfl, rfl, rfl, rfl, rfl, d_storeB sz159 rfl rfl rfl (H1.blk 0 rfl) rfl fun w2 u1 => ?_⟩)
  have H2 : UpG w [blk rg #[.int .u64 r] 159] w2 [[blk rg #[.int .u64 (bitsOf .xor .u64 r (IntKind.u64.wrap (r * 2 ^ (min (13 : Int).toNat 64))))] 159]] := H1.on 0 rfl u1
  refine ⟨trivial, ?_⟩
  refine WD.done hok1 rfl (X.then_code ?_)
  refine W.seq ?_
  refine W.regionD mixed (by kernel_rfl) fun hok2 w3 k2 => ?_
  have H3 : UpG w [blk rg #[.int .u64 r] 159] w3 [[blk rg #[.int .u64 (bitsOf .xor .u64 r (IntKind.u64.wrap (r * 2 ^ (min (13 : Int).toNat 64))))] 159]] := H2.kept k2
  refine WD.take hok2 0 (.pointer (some ⟨rg, 0, none⟩)) (fun _ => True) rfl rfl rfl rfl rfl trivial (.inl ⟨rfl, fun _ _ => d_move rfl ⟨rfl, rfl⟩⟩) ?_
  refine WD.take hok2 1 (.pointer (some ⟨rg, 0, none⟩)) (fun _ => True) rfl rfl rfl rfl rfl trivial (.inl ⟨rfl, fun _ _ => d_nilCheck rfl ⟨rfl, rfl⟩⟩) ?_
  refine WD.take hok2 2 (.int .u64 (bitsOf .xor .u64 r (IntKind.u64.wrap (r * 2 ^ (min (13 : Int).toNat 64))))) (fun w' => w'.heap[rg]? = some (.cells #[.int .u64 (bitsOf .xor .u64 r (IntKind.u64.wrap (r * 2 ^ (min (13 : Int).toNat 64))))] 159 (0, 0))) rfl rfl rfl rfl rfl (H3.blk 0 rfl) (.inl ⟨rfl, fun _ hC => d_loadB Try.underlying159 rfl rfl hC rfl ⟨rfl, rfl⟩⟩) ?_
  refine WD.take hok2 3 (.pointer (some ⟨rg, 0, none⟩)) (fun _ => True) rfl rfl rfl rfl rfl trivial (.inl ⟨rfl, fun _ _ => d_move rfl ⟨rfl, rfl⟩⟩) ?_
  refine WD.take hok2 4 (.pointer (some ⟨rg, 0, none⟩)) (fun _ => True) rfl rfl rfl rfl rfl trivial (.inl ⟨rfl, fun _ _ => d_nilCheck rfl ⟨rfl, rfl⟩⟩) ?_
  refine WD.take hok2 5 (.int .u64 (bitsOf .xor .u64 r (IntKind.u64.wrap (r * 2 ^ (min (13 : Int).toNat 64))))) (fun w' => w'.heap[rg]? = some (.cells #[.int .u64 (bitsOf .xor .u64 r (IntKind.u64.wrap (r * 2 ^ (min (13 : Int).toNat 64))))] 159 (0, 0))) rfl rfl rfl rfl rfl (H3.blk 0 rfl) (.inl ⟨rfl, fun _ hC => d_loadB Try.underlying159 rfl rfl hC rfl ⟨rfl, rfl⟩⟩) ?_
  refine WD.take hok2 6 (.int .u64 ((bitsOf .xor .u64 r (IntKind.u64.wrap (r * 2 ^ (min (13 : Int).toNat 64)))).fdiv (2 ^ (min (7 : Int).toNat 64)))) (fun _ => True) rfl rfl rfl rfl rfl trivial (.inl ⟨rfl, fun _ _ => d_shr rfl rfl (by omega) ⟨rfl, rfl⟩⟩) ?_
  refine WD.take hok2 7 (.int .u64 (bitsOf .xor .u64 (bitsOf .xor .u64 r (IntKind.u64.wrap (r * 2 ^ (min (13 : Int).toNat 64)))) ((bitsOf .xor .u64 r (IntKind.u64.wrap (r * 2 ^ (min (13 : Int).toNat 64)))).fdiv (2 ^ (min (7 : Int).toNat 64))))) (fun _ => True) rfl rfl rfl rfl rfl trivial (.inl ⟨rfl, fun _ _ => d_bits (bitsOf .xor .u64 (bitsOf .xor .u64 r (IntKind.u64.wrap (r * 2 ^ (min (13 : Int).toNat 64)))) ((bitsOf .xor .u64 r (IntKind.u64.wrap (r * 2 ^ (min (13 : Int).toNat 64)))).fdiv (2 ^ (min (7 : Int).toNat 64)))) rfl rfl rfl ⟨rfl, rfl⟩⟩) ?_
  refine WD.take hok2 8 (.pointer (some ⟨rg, 0, none⟩)) (fun _ => True) rfl rfl rfl rfl rfl trivial (.inl ⟨rfl, fun _ _ => d_nilCheck rfl ⟨rfl, rfl⟩⟩) ?_
  refine WD.loud hok2 9 rfl (⟨_, [], rfl, rfl, rfl, rfl, rfl, rfl, d_storeB sz159 rfl rfl rfl (H3.blk 0 rfl) rfl fun w4 u2 => ?_⟩)
  have H4 : UpG w [blk rg #[.int .u64 r] 159] w4 [[blk rg #[.int .u64 (bitsOf .xor .u64 (bitsOf .xor .u64 r (IntKind.u64.wrap (r * 2 ^ (min (13 : Int).toNat 64)))) ((bitsOf .xor .u64 r (IntKind.u64.wrap (r * 2 ^ (min (13 : Int).toNat 64)))).fdiv (2 ^ (min (7 : Int).toNat 64))))] 159]] := H3.on 0 rfl u2
  refine ⟨trivial, ?_⟩
  refine WD.done hok2 rfl (X.then_code ?_)
  refine W.seq ?_
  refine W.regionD mixed (by kernel_rfl) fun hok3 w5 k3 => ?_
  have H5 : UpG w [blk rg #[.int .u64 r] 159] w5 [[blk rg #[.int .u64 (bitsOf .xor .u64 (bitsOf .xor .u64 r (IntKind.u64.wrap (r * 2 ^ (min (13 : Int).toNat 64)))) ((bitsOf .xor .u64 r (IntKind.u64.wrap (r * 2 ^ (min (13 : Int).toNat 64)))).fdiv (2 ^ (min (7 : Int).toNat 64))))] 159]] := H4.kept k3
  refine WD.take hok3 0 (.pointer (some ⟨rg, 0, none⟩)) (fun _ => True) rfl rfl rfl rfl rfl trivial (.inl ⟨rfl, fun _ _ => d_move rfl ⟨rfl, rfl⟩⟩) ?_
  refine WD.take hok3 1 (.pointer (some ⟨rg, 0, none⟩)) (fun _ => True) rfl rfl rfl rfl rfl trivial (.inl ⟨rfl, fun _ _ => d_nilCheck rfl ⟨rfl, rfl⟩⟩) ?_
  refine WD.take hok3 2 (.int .u64 (bitsOf .xor .u64 (bitsOf .xor .u64 r (IntKind.u64.wrap (r * 2 ^ (min (13 : Int).toNat 64)))) ((bitsOf .xor .u64 r (IntKind.u64.wrap (r * 2 ^ (min (13 : Int).toNat 64)))).fdiv (2 ^ (min (7 : Int).toNat 64))))) (fun w' => w'.heap[rg]? = some (.cells #[.int .u64 (bitsOf .xor .u64 (bitsOf .xor .u64 r (IntKind.u64.wrap (r * 2 ^ (min (13 : Int).toNat 64)))) ((bitsOf .xor .u64 r (IntKind.u64.wrap (r * 2 ^ (min (13 : Int).toNat 64)))).fdiv (2 ^ (min (7 : Int).toNat 64))))] 159 (0, 0))) rfl rfl rfl rfl rfl (H5.blk 0 rfl) (.inl ⟨rfl, fun _ hC => d_loadB Try.underlying159 rfl rfl hC rfl ⟨rfl, rfl⟩⟩) ?_
  refine WD.take hok3 3 (.pointer (some ⟨rg, 0, none⟩)) (fun _ => True) rfl rfl rfl rfl rfl trivial (.inl ⟨rfl, fun _ _ => d_move rfl ⟨rfl, rfl⟩⟩) ?_
  refine WD.take hok3 4 (.pointer (some ⟨rg, 0, none⟩)) (fun _ => True) rfl rfl rfl rfl rfl trivial (.inl ⟨rfl, fun _ _ => d_nilCheck rfl ⟨rfl, rfl⟩⟩) ?_
  refine WD.take hok3 5 (.int .u64 (bitsOf .xor .u64 (bitsOf .xor .u64 r (IntKind.u64.wrap (r * 2 ^ (min (13 : Int).toNat 64)))) ((bitsOf .xor .u64 r (IntKind.u64.wrap (r * 2 ^ (min (13 : Int).toNat 64)))).fdiv (2 ^ (min (7 : Int).toNat 64))))) (fun w' => w'.heap[rg]? = some (.cells #[.int .u64 (bitsOf .xor .u64 (bitsOf .xor .u64 r (IntKind.u64.wrap (r * 2 ^ (min (13 : Int).toNat 64)))) ((bitsOf .xor .u64 r (IntKind.u64.wrap (r * 2 ^ (min (13 : Int).toNat 64)))).fdiv (2 ^ (min (7 : Int).toNat 64))))] 159 (0, 0))) rfl rfl rfl rfl rfl (H5.blk 0 rfl) (.inl ⟨rfl, fun _ hC => d_loadB Try.underlying159 rfl rfl hC rfl ⟨rfl, rfl⟩⟩) ?_
  refine WD.take hok3 6 (.int .u64 (IntKind.u64.wrap ((bitsOf .xor .u64 (bitsOf .xor .u64 r (IntKind.u64.wrap (r * 2 ^ (min (13 : Int).toNat 64)))) ((bitsOf .xor .u64 r (IntKind.u64.wrap (r * 2 ^ (min (13 : Int).toNat 64)))).fdiv (2 ^ (min (7 : Int).toNat 64)))) * 2 ^ (min (17 : Int).toNat 64)))) (fun _ => True) rfl rfl rfl rfl rfl trivial (.inl ⟨rfl, fun _ _ => d_shl rfl rfl (by omega) ⟨rfl, rfl⟩⟩) ?_
  refine WD.take hok3 7 (.int .u64 (bitsOf .xor .u64 (bitsOf .xor .u64 (bitsOf .xor .u64 r (IntKind.u64.wrap (r * 2 ^ (min (13 : Int).toNat 64)))) ((bitsOf .xor .u64 r (IntKind.u64.wrap (r * 2 ^ (min (13 : Int).toNat 64)))).fdiv (2 ^ (min (7 : Int).toNat 64)))) (IntKind.u64.wrap ((bitsOf .xor .u64 (bitsOf .xor .u64 r (IntKind.u64.wrap (r * 2 ^ (min (13 : Int).toNat 64)))) ((bitsOf .xor .u64 r (IntKind.u64.wrap (r * 2 ^ (min (13 : Int).toNat 64)))).fdiv (2 ^ (min (7 : Int).toNat 64)))) * 2 ^ (min (17 : Int).toNat 64))))) (fun _ => True) rfl rfl rfl rfl rfl trivial (.inl ⟨rfl, fun _ _ => d_bits (bitsOf .xor .u64 (bitsOf .xor .u64 (bitsOf .xor .u64 r (IntKind.u64.wrap (r * 2 ^ (min (13 : Int).toNat 64)))) ((bitsOf .xor .u64 r (IntKind.u64.wrap (r * 2 ^ (min (13 : Int).toNat 64)))).fdiv (2 ^ (min (7 : Int).toNat 64)))) (IntKind.u64.wrap ((bitsOf .xor .u64 (bitsOf .xor .u64 r (IntKind.u64.wrap (r * 2 ^ (min (13 : Int).toNat 64)))) ((bitsOf .xor .u64 r (IntKind.u64.wrap (r * 2 ^ (min (13 : Int).toNat 64)))).fdiv (2 ^ (min (7 : Int).toNat 64)))) * 2 ^ (min (17 : Int).toNat 64)))) rfl rfl rfl ⟨rfl, rfl⟩⟩) ?_
  refine WD.take hok3 8 (.pointer (some ⟨rg, 0, none⟩)) (fun _ => True) rfl rfl rfl rfl rfl trivial (.inl ⟨rfl, fun _ _ => d_nilCheck rfl ⟨rfl, rfl⟩⟩) ?_
  refine WD.loud hok3 9 rfl (⟨_, [], rfl, rfl, rfl, rfl, rfl, rfl, d_storeB sz159 rfl rfl rfl (H5.blk 0 rfl) rfl fun w6 u3 => ?_⟩)
  have H6 : UpG w [blk rg #[.int .u64 r] 159] w6 [[blk rg #[.int .u64 (bitsOf .xor .u64 (bitsOf .xor .u64 (bitsOf .xor .u64 r (IntKind.u64.wrap (r * 2 ^ (min (13 : Int).toNat 64)))) ((bitsOf .xor .u64 r (IntKind.u64.wrap (r * 2 ^ (min (13 : Int).toNat 64)))).fdiv (2 ^ (min (7 : Int).toNat 64)))) (IntKind.u64.wrap ((bitsOf .xor .u64 (bitsOf .xor .u64 r (IntKind.u64.wrap (r * 2 ^ (min (13 : Int).toNat 64)))) ((bitsOf .xor .u64 r (IntKind.u64.wrap (r * 2 ^ (min (13 : Int).toNat 64)))).fdiv (2 ^ (min (7 : Int).toNat 64)))) * 2 ^ (min (17 : Int).toNat 64))))] 159]] := H5.on 0 rfl u3
  refine ⟨trivial, ?_⟩
  refine WD.done hok3 rfl (X.then_code ?_)
  refine W.seq ?_
  refine W.region ?_
  refine WL.op rfl (d_move rfl ?_)
  refine WL.op rfl (d_nilCheck rfl ?_)
  refine WL.op rfl (d_loadB Try.underlying159 rfl rfl (H6.blk 0 rfl) rfl ?_)
  refine WL.op rfl (d_assign rfl ?_)
  refine WL.done (X.then_code ?_)
  refine W.pick [2] (Γ' := [(2, .int .u64 (bitsOf .xor .u64 (bitsOf .xor .u64 (bitsOf .xor .u64 r (IntKind.u64.wrap (r * 2 ^ (min (13 : Int).toNat 64)))) ((bitsOf .xor .u64 r (IntKind.u64.wrap (r * 2 ^ (min (13 : Int).toNat 64)))).fdiv (2 ^ (min (7 : Int).toNat 64)))) (IntKind.u64.wrap ((bitsOf .xor .u64 (bitsOf .xor .u64 r (IntKind.u64.wrap (r * 2 ^ (min (13 : Int).toNat 64)))) ((bitsOf .xor .u64 r (IntKind.u64.wrap (r * 2 ^ (min (13 : Int).toNat 64)))).fdiv (2 ^ (min (7 : Int).toNat 64)))) * 2 ^ (min (17 : Int).toNat 64)))))]) rfl ?_
  refine W.ret (X.ret1 rfl rfl ?_)
  exact ⟨bitsOf .xor .u64 (bitsOf .xor .u64 (bitsOf .xor .u64 r (IntKind.u64.wrap (r * 2 ^ (min (13 : Int).toNat 64)))) ((bitsOf .xor .u64 r (IntKind.u64.wrap (r * 2 ^ (min (13 : Int).toNat 64)))).fdiv (2 ^ (min (7 : Int).toNat 64)))) (IntKind.u64.wrap ((bitsOf .xor .u64 (bitsOf .xor .u64 r (IntKind.u64.wrap (r * 2 ^ (min (13 : Int).toNat 64)))) ((bitsOf .xor .u64 r (IntKind.u64.wrap (r * 2 ^ (min (13 : Int).toNat 64)))).fdiv (2 ^ (min (7 : Int).toNat 64)))) * 2 ^ (min (17 : Int).toNat 64))), rfl, (Upd.sel H6 (l := [0]) rfl rfl)⟩

set_option maxRecDepth 20000 in
theorem npow_any (n : Int) (w : World) (hn1 : 1 ≤ n ∧ n ≤ 1000000000) :
    Calls Try.prog 128 #[.int .i64 n] w (Ret fun v w' => ∃ m : Int, v = .int .u64 m ∧ Upd w [] w' [] ∧ (n < m ∧ m ≤ 2 * n)) := by
  refine calls_of_W (args := [.int .i64 n]) Try.func128 rfl rfl rfl ?_
  have H0 : UpG w [] w [] := UpG.nil w
  show W _ _ _ _ [(0, .int .i64 n)] w
  refine W.seq ?_
  refine W.region ?_
  refine WL.op rfl (d_assign rfl ?_)
  refine WL.done (X.then_code ?_)
  refine W.seq ?_
  refine W.region ?_
  refine WL.op rfl (d_move rfl ?_)
  refine WL.op rfl (d_convI (kd := .u64) Try.underlying3 Try.underlying126 rfl (by simp [IntKind.signed, IntKind.bits, IntKind.max]; omega) ?_)
  refine WL.op rfl (d_call ok101 rfl (Ret.calls (len_any n w  (by omega) (by omega)) fun _ w1 p1 => ?_))
  obtain ⟨rfl, u1⟩ := p1
  have H1 : UpG w [] w1 [] := H0.call u1
  refine WL.op rfl (d_shl rfl rfl (by omega) ?_)
  refine WL.op rfl (d_assign rfl ?_)
  refine WL.done (X.then_code ?_)
  refine W.ret (X.ret1 rfl rfl ?_)
  exact ⟨IntKind.u64.wrap (1 * 2 ^ (min ((Lib.bitLen n.toNat : Nat) : Int).toNat 64)), rfl, H1.noneL, pow_bd hn1.1 hn1.2⟩

set_option maxRecDepth 20000 in
theorem brk8_any (da : Option Addr) (xs : List Int) (dc : Nat) (dn : Nat) (aI : Int) (a : Nat) (bI : Int) (b : Nat) (w : World) (hp : Hp w [rowT (tyI .u8) (.slice da dn dc) 5 xs]) (e_a : aI = ((a : Nat) : Int)) (e_b : bI = ((b : Nat) : Int)) (hab : a < b ∧ b ≤ xs.length ∧ xs.length ≤ 1000000) :
    Calls Try.prog 120 #[.slice da dn dc, .int .i64 aI, .int .i64 bI] w (Ret fun v w' => ∃ ys : List Int, v = .tuple #[] ∧ Upd w [rowT (tyI .u8) (.slice da dn dc) 5 xs] w' [rowT (tyI .u8) (.slice da dn dc) 5 ys] ∧ (Go.Sort.PermIn a b xs.toArray ys.toArray)) := by
  subst e_a
  subst e_b
  have hn := (hp_rdT hp (List.mem_of_getElem? (i := 0) rfl)).len
  refine calls_of_W (args := [.slice da dn dc, .int .i64 ((a : Nat) : Int), .int .i64 ((b : Nat) : Int)]) Try.func120 rfl rfl rfl ?_
  have H0 : UpG w [rowT (tyI .u8) (.slice da dn dc) 5 xs] w [[rowT (tyI .u8) (.slice da dn dc) 5 xs]] := (UpG.refl hp).re rfl
  show W _ _ _ _ [(0, .slice da dn dc), (1, .int .i64 ((a : Nat) : Int)), (2, .int .i64 ((b : Nat) : Int))] w
  refine W.seq ?_
  refine W.region ?_
  refine WL.op rfl (d_move rfl ?_)
  refine WL.op rfl (d_move rfl ?_)
  refine WL.op rfl (d_sub rfl rfl (by omega) (by omega) ?_)
  refine WL.op rfl (d_assign rfl ?_)
  refine WL.done (X.then_code ?_)
  refine W.seq ?_
  refine W.region ?_
  refine WL.op rfl (d_move rfl ?_)
  refine WL.op rfl (d_cmp (decide ((((b : Nat) : Int) - ((a : Nat) : Int)) ≥ (8 : Int))) rfl rfl rfl ?_)
  refine WL.done (X.then_code ?_)
  refine W.ite (p := (((b : Nat) : Int) - ((a : Nat) : Int)) ≥ (8 : Int)) rfl (fun c244 => ?_) (fun c244 => ?_)
  · skip
    refine W.seq ?_
    refine W.region ?_
    refine WL.op rfl (d_move rfl ?_)
    refine WL.op rfl (d_convI (kd := .u64) Try.underlying3 Try.underlying159 rfl (by simp [IntKind.signed, IntKind.bits, IntKind.max]; omega) ?_)
    refine WL.op rfl (d_alloc sz159 fun w1 u1 => ?_)
    have H1 : UpG w [rowT (tyI .u8) (.slice da dn dc) 5 xs] w1 [[rowT (tyI .u8) (.slice da dn dc) 5 xs], [blk w.heap.size #[.int .u64 0] 159]] := H0.new' u1
    refine WL.op0 (d_storeB sz159 rfl rfl rfl (H1.blk 1 rfl) rfl fun w2 u2 => ?_)
    have H2 : UpG w [rowT (tyI .u8) (.slice da dn dc) 5 xs] w2 [[rowT (tyI .u8) (.slice da dn dc) 5 xs], [blk w.heap.size #[.int .u64 (((b : Nat) : Int) - ((a : Nat) : Int))] 159]] := H1.on 1 rfl u2
    refine WL.done (X.then_code ?_)
    refine W.seq ?_
    refine W.region ?_
    refine WL.op rfl (d_move rfl ?_)
    refine WL.op rfl (d_call ok128 rfl (Ret.calls (npow_any (((b : Nat) : Int) - ((a : Nat) : Int)) w2  (by omega)) fun _ w3 p1 => ?_))
    obtain ⟨m_1, rfl, u3, q1⟩ := p1
    have H3 : UpG w [rowT (tyI .u8) (.slice da dn dc) 5 xs] w3 [[rowT (tyI .u8) (.slice da dn dc) 5 xs], [blk w.heap.size #[.int .u64 (((b : Nat) : Int) - ((a : Nat) : Int))] 159]] := H2.call u3
    refine WL.op rfl (d_assign rfl ?_)
    refine WL.done (X.then_code ?_)
    refine W.seq ?_
    refine W.region ?_
    refine WL.op rfl (d_move rfl ?_)
    refine WL.op rfl (d_move rfl ?_)
    refine WL.op rfl (d_quo rfl rfl (by omega) (by omega) (by omega) ?_)
    refine WL.op rfl (d_mul rfl rfl (by omega) (by omega) ?_)
    refine WL.op rfl (d_add rfl rfl (by omega) (by omega) ?_)
    refine WL.op rfl (d_sub rfl rfl (by omega) (by omega) ?_)
    refine WL.op rfl (d_assign rfl ?_)
    refine WL.done (X.then_code ?_)
    refine W.block ?_
    refine W.pick [9, 8, 7, 6, 0, 1] (Γ' := [(9, .int .i64 ((((a : Nat) : Int) + (((((b : Nat) : Int) - ((a : Nat) : Int)) / 4) * 2)) - 1)), (8, .int .u64 m_1), (7, .pointer (some ⟨w.heap.size, 0, none⟩)), (6, .int .i64 (((b : Nat) : Int) - ((a : Nat) : Int))), (0, .slice da dn dc), (1, .int .i64 ((a : Nat) : Int))]) rfl ?_
    refine W.loop (fun m Γ' w' => ∃ ix : Int, ∃ ys : List Int, ∃ r : Int, Γ' = [(9, .int .i64 ix), (8, .int .u64 m_1), (7, .pointer (some ⟨w.heap.size, 0, none⟩)), (6, .int .i64 (((b : Nat) : Int) - ((a : Nat) : Int))), (0, .slice da dn dc), (1, .int .i64 ((a : Nat) : Int))] ∧ UpG w [rowT (tyI .u8) (.slice da dn dc) 5 xs] w' [[rowT (tyI .u8) (.slice da dn dc) 5 ys], [blk w.heap.size #[.int .u64 r] 159]] ∧ ((a : Int) ≤ ix ∧ (a : Int) + ((b : Int) - (a : Int)) / 4 * 2 - 1 ≤ ix) ∧ (ys.length = xs.length) ∧ (Go.Sort.PermIn a b xs.toArray ys.toArray) ∧ m = ((a : Int) + ((b : Int) - (a : Int)) / 4 * 2 + 3 - ix).toNat) (((a : Int) + ((b : Int) - (a : Int)) / 4 * 2 + 3 - ((((a : Nat) : Int) + (((((b : Nat) : Int) - ((a : Nat) : Int)) / 4) * 2)) - 1)).toNat) ⟨(((a : Nat) : Int) + (((((b : Nat) : Int) - ((a : Nat) : Int)) / 4) * 2)) - 1, xs, _, rfl, (H3.re rfl), (by omega), (by rfl), (by exact Go.Sort.permIn_refl _ _ _), rfl⟩ ?_
    rintro m1 Γ1 w4 ⟨ix, ys, r, rfl, H4, hix, hzys, hP, rfl⟩
    refine W.seq ?_
    refine W.seq ?_
    refine W.region ?_
    refine WL.op rfl (d_move rfl ?_)
    refine WL.op rfl (d_move rfl ?_)
    refine WL.op rfl (d_move rfl ?_)
    refine WL.op rfl (d_quo rfl rfl (by omega) (by omega) (by omega) ?_)
    refine WL.op rfl (d_mul rfl rfl (by omega) (by omega) ?_)
    refine WL.op rfl (d_add rfl rfl (by omega) (by omega) ?_)
    refine WL.op rfl (d_add rfl rfl (by omega) (by omega) ?_)
    refine WL.op rfl (d_cmp (decide (ix ≤ ((((a : Nat) : Int) + (((((b : Nat) : Int) - ((a : Nat) : Int)) / 4) * 2)) + 1))) rfl rfl rfl ?_)
    refine WL.done (X.then_code ?_)
    refine W.ite (p := ix ≤ ((((a : Nat) : Int) + (((((b : Nat) : Int) - ((a : Nat) : Int)) / 4) * 2)) + 1)) rfl (fun c248 => ?_) (fun c248 => ?_)
    · skip
      refine W.skip (X.then_code ?_)
      refine W.seq ?_
      refine W.block ?_
      refine W.seq ?_
      have hm1 : IntKind.u64.wrap (m_1 - 1) = m_1 - 1 := sub1_u64 (by omega) (by omega)
      refine W.region ?_
      refine WL.op rfl (d_call ok129 rfl (Ret.calls (next8_any w.heap.size r w4 (H4.hpOf 1 rfl)  ) fun _ w5 p2 => ?_))
      obtain ⟨r2_1, rfl, u4⟩ := p2
      have H5 : UpG w [rowT (tyI .u8) (.slice da dn dc) 5 xs] w5 [[rowT (tyI .u8) (.slice da dn dc) 5 ys], [blk w.heap.size #[.int .u64 r2_1] 159]] := H4.on 1 rfl u4
      refine WL.op rfl (d_move rfl ?_)
      refine WL.op rfl (d_arith _ rfl rfl rfl ?_)
      refine WL.op rfl (d_bits (bitsOf .and .u64 r2_1 (IntKind.u64.wrap (m_1 - 1))) rfl rfl rfl ?_)
      refine WL.op rfl (d_convI (kd := .i64) Try.underlying126 Try.underlying3 rfl (by have h9 := and_bd (x := r2_1) (m := IntKind.u64.wrap (m_1 - 1)) (by omega) (by omega); simp [IntKind.signed, IntKind.bits, IntKind.max]; omega) ?_)
      refine WL.op rfl (d_assign rfl ?_)
      refine WL.done (X.then_code ?_)
      refine W.seq ?_
      refine W.seq ?_
      have hand := and_bd (x := r2_1) (m := IntKind.u64.wrap (m_1 - 1)) (by omega) (by omega)
      refine W.region ?_
      refine WL.op rfl (d_move rfl ?_)
      refine WL.op rfl (d_move rfl ?_)
      refine WL.op rfl (d_cmp (decide ((bitsOf .and .u64 r2_1 (IntKind.u64.wrap (m_1 - 1))) ≥ (((b : Nat) : Int) - ((a : Nat) : Int)))) rfl rfl rfl ?_)
      refine WL.done (X.then_code ?_)
      refine W.ite (p := (bitsOf .and .u64 r2_1 (IntKind.u64.wrap (m_1 - 1))) ≥ (((b : Nat) : Int) - ((a : Nat) : Int))) rfl (fun c250 => ?_) (fun c250 => ?_)
      · skip
        refine W.region ?_
        refine WL.op rfl (d_move rfl ?_)
        refine WL.op rfl (d_move rfl ?_)
        refine WL.op rfl (d_sub rfl rfl (by omega) (by omega) ?_)
        refine WL.op rfl (d_assign rfl ?_)
        refine WL.done (X.then_code ?_)
        refine W.regionD mixed (by kernel_rfl) fun hok1 w6 k1 => ?_
        have H6 : UpG w [rowT (tyI .u8) (.slice da dn dc) 5 xs] w6 [[rowT (tyI .u8) (.slice da dn dc) 5 ys], [blk w.heap.size #[.int .u64 r2_1] 159]] := H5.kept k1
        refine WD.take hok1 0 (.slice da dn dc) (fun _ => True) rfl rfl rfl rfl rfl trivial (.inl ⟨rfl, fun _ _ => d_move rfl ⟨rfl, rfl⟩⟩) ?_
        refine WD.take hok1 1 (.int .i64 ix) (fun _ => True) rfl rfl rfl rfl rfl trivial (.inl ⟨rfl, fun _ _ => d_move rfl ⟨rfl, rfl⟩⟩) ?_
        refine WD.take hok1 2 (.slice da dn dc) (fun _ => True) rfl rfl rfl rfl rfl trivial (.inl ⟨rfl, fun _ _ => d_move rfl ⟨rfl, rfl⟩⟩) ?_
        refine WD.take hok1 3 (.int .i64 ((a : Nat) : Int)) (fun _ => True) rfl rfl rfl rfl rfl trivial (.inl ⟨rfl, fun _ _ => d_move rfl ⟨rfl, rfl⟩⟩) ?_
        refine WD.take hok1 4 (.int .i64 ((bitsOf .and .u64 r2_1 (IntKind.u64.wrap (m_1 - 1))) - (((b : Nat) : Int) - ((a : Nat) : Int)))) (fun _ => True) rfl rfl rfl rfl rfl trivial (.inl ⟨rfl, fun _ _ => d_move rfl ⟨rfl, rfl⟩⟩) ?_
        refine WD.take hok1 5 (.int .i64 (((a : Nat) : Int) + ((bitsOf .and .u64 r2_1 (IntKind.u64.wrap (m_1 - 1))) - (((b : Nat) : Int) - ((a : Nat) : Int))))) (fun _ => True) rfl rfl rfl rfl rfl trivial (.inl ⟨rfl, fun _ _ => d_add rfl rfl (by omega) (by omega) ⟨rfl, rfl⟩⟩) ?_
        refine WD.take hok1 6 (.slice da dn dc) (fun _ => True) rfl rfl rfl rfl rfl trivial (.inl ⟨rfl, fun _ _ => d_move rfl ⟨rfl, rfl⟩⟩) ?_
        refine WD.take hok1 7 (.int .i64 ((a : Nat) : Int)) (fun _ => True) rfl rfl rfl rfl rfl trivial (.inl ⟨rfl, fun _ _ => d_move rfl ⟨rfl, rfl⟩⟩) ?_
        refine WD.take hok1 8 (.int .i64 ((bitsOf .and .u64 r2_1 (IntKind.u64.wrap (m_1 - 1))) - (((b : Nat) : Int) - ((a : Nat) : Int)))) (fun _ => True) rfl rfl rfl rfl rfl trivial (.inl ⟨rfl, fun _ _ => d_move rfl ⟨rfl, rfl⟩⟩) ?_
        refine WD.take hok1 9 (.int .i64 (((a : Nat) : Int) + ((bitsOf .and .u64 r2_1 (IntKind.u64.wrap (m_1 - 1))) - (((b : Nat) : Int) - ((a : Nat) : Int))))) (fun _ => True) rfl rfl rfl rfl rfl trivial (.inl ⟨rfl, fun _ _ => d_add rfl rfl (by omega) (by omega) ⟨rfl, rfl⟩⟩) ?_
        refine WD.take hok1 10 (elemPtr (.slice da dn dc) ((((a : Nat) : Int) + ((bitsOf .and .u64 r2_1 (IntKind.u64.wrap (m_1 - 1))) - (((b : Nat) : Int) - ((a : Nat) : Int)))).toNat)) (fun w' => RdT (tyI .u8) w' (.slice da dn dc) ys) rfl rfl rfl rfl rfl (H6.rdT 0 rfl) (.inl ⟨rfl, fun _ hC => t_addr1 ((((a : Nat) : Int) + ((bitsOf .and .u64 r2_1 (IntKind.u64.wrap (m_1 - 1))) - (((b : Nat) : Int) - ((a : Nat) : Int)))).toNat) (T := (tyI .u8)) rfl Try.underlying85 sz5 rfl rfl hC (by first | omega | (simp only [List.length_set]; omega)) (by first | omega | (simp only [List.length_set]; omega)) ⟨rfl, rfl⟩⟩) ?_
        refine WD.take hok1 11 (.int .u8 (ys.getD ((((a : Nat) : Int) + ((bitsOf .and .u64 r2_1 (IntKind.u64.wrap (m_1 - 1))) - (((b : Nat) : Int) - ((a : Nat) : Int)))).toNat) 0)) (fun w' => RdT (tyI .u8) w' (.slice da dn dc) ys) rfl rfl rfl rfl rfl (H6.rdT 0 rfl) (.inl ⟨rfl, fun _ hC => t_load1 ((((a : Nat) : Int) + ((bitsOf .and .u64 r2_1 (IntKind.u64.wrap (m_1 - 1))) - (((b : Nat) : Int) - ((a : Nat) : Int)))).toNat) 0 (T := (tyI .u8)) rfl Try.underlying5 rfl rfl hC (by first | omega | (simp only [List.length_set]; omega)) rfl ⟨rfl, rfl⟩⟩) ?_
        refine WD.take hok1 12 (.slice da dn dc) (fun _ => True) rfl rfl rfl rfl rfl trivial (.inl ⟨rfl, fun _ _ => d_move rfl ⟨rfl, rfl⟩⟩) ?_
        refine WD.take hok1 13 (.int .i64 ix) (fun _ => True) rfl rfl rfl rfl rfl trivial (.inl ⟨rfl, fun _ _ => d_move rfl ⟨rfl, rfl⟩⟩) ?_
        refine WD.take hok1 14 (elemPtr (.slice da dn dc) ix.toNat) (fun w' => RdT (tyI .u8) w' (.slice da dn dc) ys) rfl rfl rfl rfl rfl (H6.rdT 0 rfl) (.inl ⟨rfl, fun _ hC => t_addr1 ix.toNat (T := (tyI .u8)) rfl Try.underlying85 sz5 rfl rfl hC (by first | omega | (simp only [List.length_set]; omega)) (by first | omega | (simp only [List.length_set]; omega)) ⟨rfl, rfl⟩⟩) ?_
        refine WD.take hok1 15 (.int .u8 (ys.getD ix.toNat 0)) (fun w' => RdT (tyI .u8) w' (.slice da dn dc) ys) rfl rfl rfl rfl rfl (H6.rdT 0 rfl) (.inl ⟨rfl, fun _ hC => t_load1 ix.toNat 0 (T := (tyI .u8)) rfl Try.underlying5 rfl rfl hC (by first | omega | (simp only [List.length_set]; omega)) rfl ⟨rfl, rfl⟩⟩) ?_
        refine WD.take hok1 16 (elemPtr (.slice da dn dc) ix.toNat) (fun w' => RdT (tyI .u8) w' (.slice da dn dc) ys) rfl rfl rfl rfl rfl (H6.rdT 0 rfl) (.inl ⟨rfl, fun _ hC => t_addr1 ix.toNat (T := (tyI .u8)) rfl Try.underlying85 sz5 rfl rfl hC (by first | omega | (simp only [List.length_set]; omega)) (by first | omega | (simp only [List.length_set]; omega)) ⟨rfl, rfl⟩⟩) ?_
        refine WD.loud hok1 17 rfl (⟨_, [⟨5, .int .i64 (((a : Nat) : Int) + ((bitsOf .and .u64 r2_1 (IntKind.u64.wrap (m_1 - 1))) - (((b : Nat) : Int) - ((a : Nat) : Int)))), (fun _ => True)⟩, ⟨4, .int .i64 ((bitsOf .and .u64 r2_1 (IntKind.u64.wrap (m_1 - 1))) - (((b : Nat) : Int) - ((a : Nat) : Int))), (fun _ => True)⟩, ⟨3, .int .i64 ((a : Nat) : Int), (fun _ => True)⟩, ⟨2, .slice da dn dc, (fun _ => True)⟩], rfl, rfl, rfl, rfl, rfl, rfl, t_store1 ix.toNat (ys.getD ((((a : Nat) : Int) + ((bitsOf .and .u64 r2_1 (IntKind.u64.wrap (m_1 - 1))) - (((b : Nat) : Int) - ((a : Nat) : Int)))).toNat) 0) (T := (tyI .u8)) (e := 5) rfl sz5 rfl rfl rfl (H6.ownT 0 rfl) (by first | omega | (simp only [List.length_set]; omega)) fun w7 u5 => ?_⟩)
        have H7 : UpG w [rowT (tyI .u8) (.slice da dn dc) 5 xs] w7 [[rowT (tyI .u8) (.slice da dn dc) 5 (ys.set ix.toNat (ys.getD ((((a : Nat) : Int) + ((bitsOf .and .u64 r2_1 (IntKind.u64.wrap (m_1 - 1))) - (((b : Nat) : Int) - ((a : Nat) : Int)))).toNat) 0))], [blk w.heap.size #[.int .u64 r2_1] 159]] := H6.on 0 rfl u5
        refine ⟨⟨trivial, trivial, trivial, trivial, trivial⟩, ?_⟩
        refine WD.take hok1 18 (elemPtr (.slice da dn dc) ((((a : Nat) : Int) + ((bitsOf .and .u64 r2_1 (IntKind.u64.wrap (m_1 - 1))) - (((b : Nat) : Int) - ((a : Nat) : Int)))).toNat)) (fun w' => RdT (tyI .u8) w' (.slice da dn dc) (ys.set ix.toNat (ys.getD ((((a : Nat) : Int) + ((bitsOf .and .u64 r2_1 (IntKind.u64.wrap (m_1 - 1))) - (((b : Nat) : Int) - ((a : Nat) : Int)))).toNat) 0))) rfl rfl rfl rfl rfl (H7.rdT 0 rfl) (.inl ⟨rfl, fun _ hC => t_addr1 ((((a : Nat) : Int) + ((bitsOf .and .u64 r2_1 (IntKind.u64.wrap (m_1 - 1))) - (((b : Nat) : Int) - ((a : Nat) : Int)))).toNat) (T := (tyI .u8)) rfl Try.underlying85 sz5 rfl rfl hC (by first | omega | (simp only [List.length_set]; omega)) (by first | omega | (simp only [List.length_set]; omega)) ⟨rfl, rfl⟩⟩) ?_
        refine WD.loud hok1 19 rfl (⟨_, [], rfl, rfl, rfl, rfl, rfl, rfl, t_store1 ((((a : Nat) : Int) + ((bitsOf .and .u64 r2_1 (IntKind.u64.wrap (m_1 - 1))) - (((b : Nat) : Int) - ((a : Nat) : Int)))).toNat) (ys.getD ix.toNat 0) (T := (tyI .u8)) (e := 5) rfl sz5 rfl rfl rfl (H7.ownT 0 rfl) (by first | omega | (simp only [List.length_set]; omega)) fun w8 u6 => ?_⟩)
        have H8 : UpG w [rowT (tyI .u8) (.slice da dn dc) 5 xs] w8 [[rowT (tyI .u8) (.slice da dn dc) 5 ((ys.set ix.toNat (ys.getD ((((a : Nat) : Int) + ((bitsOf .and .u64 r2_1 (IntKind.u64.wrap (m_1 - 1))) - (((b : Nat) : Int) - ((a : Nat) : Int)))).toNat) 0)).set ((((a : Nat) : Int) + ((bitsOf .and .u64 r2_1 (IntKind.u64.wrap (m_1 - 1))) - (((b : Nat) : Int) - ((a : Nat) : Int)))).toNat) (ys.getD ix.toNat 0))], [blk w.heap.size #[.int .u64 r2_1] 159]] := H7.on 0 rfl u6
        refine ⟨trivial, ?_⟩
        refine WD.done hok1 rfl (X.block_normal (X.then_code ?_))
        refine W.pick [9, 8, 7, 6, 0, 1] (Γ' := [(9, .int .i64 ix), (8, .int .u64 m_1), (7, .pointer (some ⟨w.heap.size, 0, none⟩)), (6, .int .i64 (((b : Nat) : Int) - ((a : Nat) : Int))), (0, .slice da dn dc), (1, .int .i64 ((a : Nat) : Int))]) rfl ?_
        refine W.region ?_
        refine WL.op rfl (d_move rfl ?_)
        refine WL.op rfl (d_add rfl rfl (by omega) (by omega) ?_)
        refine WL.op rfl (d_assign rfl ?_)
        refine WL.done ?_
        exact X.next [9, 8, 7, 6, 0, 1] (Γ' := [(9, .int .i64 (ix + 1)), (8, .int .u64 m_1), (7, .pointer (some ⟨w.heap.size, 0, none⟩)), (6, .int .i64 (((b : Nat) : Int) - ((a : Nat) : Int))), (0, .slice da dn dc), (1, .int .i64 ((a : Nat) : Int))]) rfl (((a : Int) + ((b : Int) - (a : Int)) / 4 * 2 + 3 - (ix + 1)).toNat) (by omega) ⟨ix + 1, (ys.set ix.toNat (ys.getD ((((a : Nat) : Int) + ((bitsOf .and .u64 r2_1 (IntKind.u64.wrap (m_1 - 1))) - (((b : Nat) : Int) - ((a : Nat) : Int)))).toNat) 0)).set ((((a : Nat) : Int) + ((bitsOf .and .u64 r2_1 (IntKind.u64.wrap (m_1 - 1))) - (((b : Nat) : Int) - ((a : Nat) : Int)))).toNat) (ys.getD ix.toNat 0), r2_1, rfl, H8, (by omega), (by rw [sw_len']; exact hzys), (by exact swp_perm hP (by omega) (by omega) (by omega) (by omega) (by omega) rfl), rfl⟩
      · skip
        refine W.skip (X.then_code ?_)
        refine W.regionD mixed (by kernel_rfl) fun hok2 w9 k2 => ?_
        have H9 : UpG w [rowT (tyI .u8) (.slice da dn dc) 5 xs] w9 [[rowT (tyI .u8) (.slice da dn dc) 5 ys], [blk w.heap.size #[.int .u64 r2_1] 159]] := H5.kept k2
        refine WD.take hok2 0 (.slice da dn dc) (fun _ => True) rfl rfl rfl rfl rfl trivial (.inl ⟨rfl, fun _ _ => d_move rfl ⟨rfl, rfl⟩⟩) ?_
        refine WD.take hok2 1 (.int .i64 ix) (fun _ => True) rfl rfl rfl rfl rfl trivial (.inl ⟨rfl, fun _ _ => d_move rfl ⟨rfl, rfl⟩⟩) ?_
        refine WD.take hok2 2 (.slice da dn dc) (fun _ => True) rfl rfl rfl rfl rfl trivial (.inl ⟨rfl, fun _ _ => d_move rfl ⟨rfl, rfl⟩⟩) ?_
        refine WD.take hok2 3 (.int .i64 ((a : Nat) : Int)) (fun _ => True) rfl rfl rfl rfl rfl trivial (.inl ⟨rfl, fun _ _ => d_move rfl ⟨rfl, rfl⟩⟩) ?_
        refine WD.take hok2 4 (.int .i64 (bitsOf .and .u64 r2_1 (IntKind.u64.wrap (m_1 - 1)))) (fun _ => True) rfl rfl rfl rfl rfl trivial (.inl ⟨rfl, fun _ _ => d_move rfl ⟨rfl, rfl⟩⟩) ?_
        refine WD.take hok2 5 (.int .i64 (((a : Nat) : Int) + (bitsOf .and .u64 r2_1 (IntKind.u64.wrap (m_1 - 1))))) (fun _ => True) rfl rfl rfl rfl rfl trivial (.inl ⟨rfl, fun _ _ => d_add rfl rfl (by omega) (by omega) ⟨rfl, rfl⟩⟩) ?_
        refine WD.take hok2 6 (.slice da dn dc) (fun _ => True) rfl rfl rfl rfl rfl trivial (.inl ⟨rfl, fun _ _ => d_move rfl ⟨rfl, rfl⟩⟩) ?_
        refine WD.take hok2 7 (.int .i64 ((a : Nat) : Int)) (fun _ => True) rfl rfl rfl rfl rfl trivial (.inl ⟨rfl, fun _ _ => d_move rfl ⟨rfl, rfl⟩⟩) ?_
        refine WD.take hok2 8 (.int .i64 (bitsOf .and .u64 r2_1 (IntKind.u64.wrap (m_1 - 1)))) (fun _ => True) rfl rfl rfl rfl rfl trivial (.inl ⟨rfl, fun _ _ => d_move rfl ⟨rfl, rfl⟩⟩) ?_
        refine WD.take hok2 9 (.int .i64 (((a : Nat) : Int) + (bitsOf .and .u64 r2_1 (IntKind.u64.wrap (m_1 - 1))))) (fun _ => True) rfl rfl rfl rfl rfl trivial (.inl ⟨rfl, fun _ _ => d_add rfl rfl (by omega) (by omega) ⟨rfl, rfl⟩⟩) ?_
        refine WD.take hok2 10 (elemPtr (.slice da dn dc) ((((a : Nat) : Int) + (bitsOf .and .u64 r2_1 (IntKind.u64.wrap (m_1 - 1)))).toNat)) (fun w' => RdT (tyI .u8) w' (.slice da dn dc) ys) rfl rfl rfl rfl rfl (H9.rdT 0 rfl) (.inl ⟨rfl, fun _ hC => t_addr1 ((((a : Nat) : Int) + (bitsOf .and .u64 r2_1 (IntKind.u64.wrap (m_1 - 1)))).toNat) (T := (tyI .u8)) rfl Try.underlying85 sz5 rfl rfl hC (by first | omega | (simp only [List.length_set]; omega)) (by first | omega | (simp only [List.length_set]; omega)) ⟨rfl, rfl⟩⟩) ?_
        refine WD.take hok2 11 (.int .u8 (ys.getD ((((a : Nat) : Int) + (bitsOf .and .u64 r2_1 (IntKind.u64.wrap (m_1 - 1)))).toNat) 0)) (fun w' => RdT (tyI .u8) w' (.slice da dn dc) ys) rfl rfl rfl rfl rfl (H9.rdT 0 rfl) (.inl ⟨rfl, fun _ hC => t_load1 ((((a : Nat) : Int) + (bitsOf .and .u64 r2_1 (IntKind.u64.wrap (m_1 - 1)))).toNat) 0 (T := (tyI .u8)) rfl Try.underlying5 rfl rfl hC (by first | omega | (simp only [List.length_set]; omega)) rfl ⟨rfl, rfl⟩⟩) ?_
        refine WD.take hok2 12 (.slice da dn dc) (fun _ => True) rfl rfl rfl rfl rfl trivial (.inl ⟨rfl, fun _ _ => d_move rfl ⟨rfl, rfl⟩⟩) ?_
        refine WD.take hok2 13 (.int .i64 ix) (fun _ => True) rfl rfl rfl rfl rfl trivial (.inl ⟨rfl, fun _ _ => d_move rfl ⟨rfl, rfl⟩⟩) ?_
        refine WD.take hok2 14 (elemPtr (.slice da dn dc) ix.toNat) (fun w' => RdT (tyI .u8) w' (.slice da dn dc) ys) rfl rfl rfl rfl rfl (H9.rdT 0 rfl) (.inl ⟨rfl, fun _ hC => t_addr1 ix.toNat (T := (tyI .u8)) rfl Try.underlying85 sz5 rfl rfl hC (by first | omega | (simp only [List.length_set]; omega)) (by first | omega | (simp only [List.length_set]; omega)) ⟨rfl, rfl⟩⟩) ?_
        refine WD.take hok2 15 (.int .u8 (ys.getD ix.toNat 0)) (fun w' => RdT (tyI .u8) w' (.slice da dn dc) ys) rfl rfl rfl rfl rfl (H9.rdT 0 rfl) (.inl ⟨rfl, fun _ hC => t_load1 ix.toNat 0 (T := (tyI .u8)) rfl Try.underlying5 rfl rfl hC (by first | omega | (simp only [List.length_set]; omega)) rfl ⟨rfl, rfl⟩⟩) ?_
        refine WD.take hok2 16 (elemPtr (.slice da dn dc) ix.toNat) (fun w' => RdT (tyI .u8) w' (.slice da dn dc) ys) rfl rfl rfl rfl rfl (H9.rdT 0 rfl) (.inl ⟨rfl, fun _ hC => t_addr1 ix.toNat (T := (tyI .u8)) rfl Try.underlying85 sz5 rfl rfl hC (by first | omega | (simp only [List.length_set]; omega)) (by first | omega | (simp only [List.length_set]; omega)) ⟨rfl, rfl⟩⟩) ?_
        refine WD.loud hok2 17 rfl (⟨_, [⟨5, .int .i64 (((a : Nat) : Int) + (bitsOf .and .u64 r2_1 (IntKind.u64.wrap (m_1 - 1)))), (fun _ => True)⟩, ⟨4, .int .i64 (bitsOf .and .u64 r2_1 (IntKind.u64.wrap (m_1 - 1))), (fun _ => True)⟩, ⟨3, .int .i64 ((a : Nat) : Int), (fun _ => True)⟩, ⟨2, .slice da dn dc, (fun _ => True)⟩], rfl, rfl, rfl, rfl, rfl, rfl, t_store1 ix.toNat (ys.getD ((((a : Nat) : Int) + (bitsOf .and .u64 r2_1 (IntKind.u64.wrap (m_1 - 1)))).toNat) 0) (T := (tyI .u8)) (e := 5) rfl sz5 rfl rfl rfl (H9.ownT 0 rfl) (by first | omega | (simp only [List.length_set]; omega)) fun w10 u7 => ?_⟩)
        have H10 : UpG w [rowT (tyI .u8) (.slice da dn dc) 5 xs] w10 [[rowT (tyI .u8) (.slice da dn dc) 5 (ys.set ix.toNat (ys.getD ((((a : Nat) : Int) + (bitsOf .and .u64 r2_1 (IntKind.u64.wrap (m_1 - 1)))).toNat) 0))], [blk w.heap.size #[.int .u64 r2_1] 159]] := H9.on 0 rfl u7
        refine ⟨⟨trivial, trivial, trivial, trivial, trivial⟩, ?_⟩
        refine WD.take hok2 18 (elemPtr (.slice da dn dc) ((((a : Nat) : Int) + (bitsOf .and .u64 r2_1 (IntKind.u64.wrap (m_1 - 1)))).toNat)) (fun w' => RdT (tyI .u8) w' (.slice da dn dc) (ys.set ix.toNat (ys.getD ((((a : Nat) : Int) + (bitsOf .and .u64 r2_1 (IntKind.u64.wrap (m_1 - 1)))).toNat) 0))) rfl rfl rfl rfl rfl (H10.rdT 0 rfl) (.inl ⟨rfl, fun _ hC => t_addr1 ((((a : Nat) : Int) + (bitsOf .and .u64 r2_1 (IntKind.u64.wrap (m_1 - 1)))).toNat) (T := (tyI .u8)) rfl Try.underlying85 sz5 rfl rfl hC (by first | omega | (simp only [List.length_set]; omega)) (by first | omega | (simp only [List.length_set]; omega)) ⟨rfl, rfl⟩⟩) ?_
        refine WD.loud hok2 19 rfl (⟨_, [], rfl, rfl, rfl, rfl, rfl, rfl, t_store1 ((((a : Nat) : Int) + (bitsOf .and .u64 r2_1 (IntKind.u64.wrap (m_1 - 1)))).toNat) (ys.getD ix.toNat 0) (T := (tyI .u8)) (e := 5) rfl sz5 rfl rfl rfl (H10.ownT 0 rfl) (by first | omega | (simp only [List.length_set]; omega)) fun w11 u8 => ?_⟩)
        have H11 : UpG w [rowT (tyI .u8) (.slice da dn dc) 5 xs] w11 [[rowT (tyI .u8) (.slice da dn dc) 5 ((ys.set ix.toNat (ys.getD ((((a : Nat) : Int) + (bitsOf .and .u64 r2_1 (IntKind.u64.wrap (m_1 - 1)))).toNat) 0)).set ((((a : Nat) : Int) + (bitsOf .and .u64 r2_1 (IntKind.u64.wrap (m_1 - 1)))).toNat) (ys.getD ix.toNat 0))], [blk w.heap.size #[.int .u64 r2_1] 159]] := H10.on 0 rfl u8
        refine ⟨trivial, ?_⟩
        refine WD.done hok2 rfl (X.block_normal (X.then_code ?_))
        refine W.pick [9, 8, 7, 6, 0, 1] (Γ' := [(9, .int .i64 ix), (8, .int .u64 m_1), (7, .pointer (some ⟨w.heap.size, 0, none⟩)), (6, .int .i64 (((b : Nat) : Int) - ((a : Nat) : Int))), (0, .slice da dn dc), (1, .int .i64 ((a : Nat) : Int))]) rfl ?_
        refine W.region ?_
        refine WL.op rfl (d_move rfl ?_)
        refine WL.op rfl (d_add rfl rfl (by omega) (by omega) ?_)
        refine WL.op rfl (d_assign rfl ?_)
        refine WL.done ?_
        exact X.next [9, 8, 7, 6, 0, 1] (Γ' := [(9, .int .i64 (ix + 1)), (8, .int .u64 m_1), (7, .pointer (some ⟨w.heap.size, 0, none⟩)), (6, .int .i64 (((b : Nat) : Int) - ((a : Nat) : Int))), (0, .slice da dn dc), (1, .int .i64 ((a : Nat) : Int))]) rfl (((a : Int) + ((b : Int) - (a : Int)) / 4 * 2 + 3 - (ix + 1)).toNat) (by omega) ⟨ix + 1, (ys.set ix.toNat (ys.getD ((((a : Nat) : Int) + (bitsOf .and .u64 r2_1 (IntKind.u64.wrap (m_1 - 1)))).toNat) 0)).set ((((a : Nat) : Int) + (bitsOf .and .u64 r2_1 (IntKind.u64.wrap (m_1 - 1)))).toNat) (ys.getD ix.toNat 0), r2_1, rfl, H11, (by omega), (by rw [sw_len']; exact hzys), (by exact swp_perm hP (by omega) (by omega) (by omega) (by omega) (by omega) rfl), rfl⟩
    · skip
      refine W.exit (X.then_exit (X.then_exit (X.block_exit (X.end0 rfl ?_))))
      exact ⟨_, rfl, (Upd.sel H4 (l := [0]) rfl rfl), (by first | exact hP | exact Go.Sort.permIn_refl _ _ _)⟩
  · skip
    refine W.skip (X.end0 rfl ?_)
    exact ⟨_, rfl, (Upd.sel H0 (l := [0]) rfl rfl), (by first | exact hP | exact Go.Sort.permIn_refl _ _ _)⟩

set_option maxRecDepth 20000 in
theorem peq8_any (da : Option Addr) (xs : List Int) (dc : Nat) (dn : Nat) (aI : Int) (a : Nat) (bI : Int) (b : Nat) (pI : Int) (p : Nat) (w : World) (hp : Hp w [rowT (tyI .u8) (.slice da dn dc) 5 xs]) (e_a : aI = ((a : Nat) : Int)) (e_b : bI = ((b : Nat) : Int)) (e_p : pI = ((p : Nat) : Int)) (hab : a ≤ p ∧ p < b ∧ b ≤ xs.length ∧ xs.length ≤ 1000000 ∧ a + 1 < b) :
    Calls Try.prog 125 #[.slice da dn dc, .int .i64 aI, .int .i64 bI, .int .i64 pI] w (Ret fun v w' => v = .int .i64 (((Go.Sort.partitionEqual Go.Sort.ltInt xs.toArray a b p).1 : Nat) : Int) ∧ Upd w [rowT (tyI .u8) (.slice da dn dc) 5 xs] w' [rowT (tyI .u8) (.slice da dn dc) 5 ((Go.Sort.partitionEqual Go.Sort.ltInt xs.toArray a b p).2.toList)]) := by
  subst e_a
  subst e_b
  subst e_p
  have hn := (hp_rdT hp (List.mem_of_getElem? (i := 0) rfl)).len
  refine calls_of_W (args := [.slice da dn dc, .int .i64 ((a : Nat) : Int), .int .i64 ((b : Nat) : Int), .int .i64 ((p : Nat) : Int)]) Try.func125 rfl rfl rfl ?_
  have H0 : UpG w [rowT (tyI .u8) (.slice da dn dc) 5 xs] w [[rowT (tyI .u8) (.slice da dn dc) 5 xs]] := (UpG.refl hp).re rfl
  show W _ _ _ _ [(0, .slice da dn dc), (1, .int .i64 ((a : Nat) : Int)), (2, .int .i64 ((b : Nat) : Int)), (3, .int .i64 ((p : Nat) : Int))] w
  refine W.seq ?_
  refine W.region ?_
  refine WL.op rfl (d_assign rfl ?_)
  refine WL.done (X.then_code ?_)
  refine W.seq ?_
  refine W.regionD mixed (by kernel_rfl) fun hok1 w1 k1 => ?_
  have H1 : UpG w [rowT (tyI .u8) (.slice da dn dc) 5 xs] w1 [[rowT (tyI .u8) (.slice da dn dc) 5 xs]] := H0.kept k1
  refine WD.take hok1 0 (.slice da dn dc) (fun _ => True) rfl rfl rfl rfl rfl trivial (.inl ⟨rfl, fun _ _ => d_move rfl ⟨rfl, rfl⟩⟩) ?_
  refine WD.take hok1 1 (.int .i64 ((a : Nat) : Int)) (fun _ => True) rfl rfl rfl rfl rfl trivial (.inl ⟨rfl, fun _ _ => d_move rfl ⟨rfl, rfl⟩⟩) ?_
  refine WD.take hok1 2 (.slice da dn dc) (fun _ => True) rfl rfl rfl rfl rfl trivial (.inl ⟨rfl, fun _ _ => d_move rfl ⟨rfl, rfl⟩⟩) ?_
  refine WD.take hok1 3 (.int .i64 ((p : Nat) : Int)) (fun _ => True) rfl rfl rfl rfl rfl trivial (.inl ⟨rfl, fun _ _ => d_move rfl ⟨rfl, rfl⟩⟩) ?_
  refine WD.take hok1 4 (.slice da dn dc) (fun _ => True) rfl rfl rfl rfl rfl trivial (.inl ⟨rfl, fun _ _ => d_move rfl ⟨rfl, rfl⟩⟩) ?_
  refine WD.take hok1 5 (.int .i64 ((p : Nat) : Int)) (fun _ => True) rfl rfl rfl rfl rfl trivial (.inl ⟨rfl, fun _ _ => d_move rfl ⟨rfl, rfl⟩⟩) ?_
  refine WD.take hok1 6 (elemPtr (.slice da dn dc) p) (fun w' => RdT (tyI .u8) w' (.slice da dn dc) xs) rfl rfl rfl rfl rfl (H1.rdT 0 rfl) (.inl ⟨rfl, fun _ hC => t_addr1 p (T := (tyI .u8)) rfl Try.underlying85 sz5 rfl rfl hC rfl (by first | omega | (simp only [List.length_set]; omega)) ⟨rfl, rfl⟩⟩) ?_
  refine WD.take hok1 7 (.int .u8 (xs.getD p 0)) (fun w' => RdT (tyI .u8) w' (.slice da dn dc) xs) rfl rfl rfl rfl rfl (H1.rdT 0 rfl) (.inl ⟨rfl, fun _ hC => t_load1 p 0 (T := (tyI .u8)) rfl Try.underlying5 rfl rfl hC (by first | omega | (simp only [List.length_set]; omega)) rfl ⟨rfl, rfl⟩⟩) ?_
  refine WD.take hok1 8 (.slice da dn dc) (fun _ => True) rfl rfl rfl rfl rfl trivial (.inl ⟨rfl, fun _ _ => d_move rfl ⟨rfl, rfl⟩⟩) ?_
  refine WD.take hok1 9 (.int .i64 ((a : Nat) : Int)) (fun _ => True) rfl rfl rfl rfl rfl trivial (.inl ⟨rfl, fun _ _ => d_move rfl ⟨rfl, rfl⟩⟩) ?_
  refine WD.take hok1 10 (elemPtr (.slice da dn dc) a) (fun w' => RdT (tyI .u8) w' (.slice da dn dc) xs) rfl rfl rfl rfl rfl (H1.rdT 0 rfl) (.inl ⟨rfl, fun _ hC => t_addr1 a (T := (tyI .u8)) rfl Try.underlying85 sz5 rfl rfl hC rfl (by first | omega | (simp only [List.length_set]; omega)) ⟨rfl, rfl⟩⟩) ?_
  refine WD.take hok1 11 (.int .u8 (xs.getD a 0)) (fun w' => RdT (tyI .u8) w' (.slice da dn dc) xs) rfl rfl rfl rfl rfl (H1.rdT 0 rfl) (.inl ⟨rfl, fun _ hC => t_load1 a 0 (T := (tyI .u8)) rfl Try.underlying5 rfl rfl hC (by first | omega | (simp only [List.length_set]; omega)) rfl ⟨rfl, rfl⟩⟩) ?_
  refine WD.take hok1 12 (elemPtr (.slice da dn dc) a) (fun w' => RdT (tyI .u8) w' (.slice da dn dc) xs) rfl rfl rfl rfl rfl (H1.rdT 0 rfl) (.inl ⟨rfl, fun _ hC => t_addr1 a (T := (tyI .u8)) rfl Try.underlying85 sz5 rfl rfl hC rfl (by first | omega | (simp only [List.length_set]; omega)) ⟨rfl, rfl⟩⟩) ?_
  refine WD.loud hok1 13 rfl (⟨_, [⟨3, .int .i64 ((p : Nat) : Int), (fun _ => True)⟩, ⟨2, .slice da dn dc, (fun _ => True)⟩], rfl, rfl, rfl, rfl, rfl, rfl, t_store1 a (xs.getD p 0) (T := (tyI .u8)) (e := 5) rfl sz5 rfl rfl rfl (H1.ownT 0 rfl) (by first | omega | (simp only [List.length_set]; omega)) fun w2 u1 => ?_⟩)
  have H2 : UpG w [rowT (tyI .u8) (.slice da dn dc) 5 xs] w2 [[rowT (tyI .u8) (.slice da dn dc) 5 (xs.set a (xs.getD p 0))]] := H1.on 0 rfl u1
  refine ⟨⟨trivial, trivial, trivial⟩, ?_⟩
  refine WD.take hok1 14 (elemPtr (.slice da dn dc) p) (fun w' => RdT (tyI .u8) w' (.slice da dn dc) (xs.set a (xs.getD p 0))) rfl rfl rfl rfl rfl (H2.rdT 0 rfl) (.inl ⟨rfl, fun _ hC => t_addr1 p (T := (tyI .u8)) rfl Try.underlying85 sz5 rfl rfl hC rfl (by first | omega | (simp only [List.length_set]; omega)) ⟨rfl, rfl⟩⟩) ?_
  refine WD.loud hok1 15 rfl (⟨_, [], rfl, rfl, rfl, rfl, rfl, rfl, t_store1 p (xs.getD a 0) (T := (tyI .u8)) (e := 5) rfl sz5 rfl rfl rfl (H2.ownT 0 rfl) (by first | omega | (simp only [List.length_set]; omega)) fun w3 u2 => ?_⟩)
  have H3 : UpG w [rowT (tyI .u8) (.slice da dn dc) 5 xs] w3 [[rowT (tyI .u8) (.slice da dn dc) 5 ((xs.set a (xs.getD p 0)).set p (xs.getD a 0))]] := H2.on 0 rfl u2
  refine ⟨trivial, ?_⟩
  refine WD.done hok1 rfl (X.then_code ?_)
  refine W.seq ?_
  refine W.region ?_
  refine WL.op rfl (d_move rfl ?_)
  refine WL.op rfl (d_add rfl rfl (by omega) (by omega) ?_)
  refine WL.op rfl (d_move rfl ?_)
  refine WL.op rfl (d_sub rfl rfl (by omega) (by omega) ?_)
  refine WL.op rfl (d_assign rfl ?_)
  refine WL.op rfl (d_assign rfl ?_)
  refine WL.done (X.then_code ?_)
  refine W.seq ?_
  refine W.block ?_
  refine W.pick [10, 9, 8, 0, 1] (Γ' := [(10, .int .i64 (((b : Nat) : Int) - 1)), (9, .int .i64 (((a : Nat) : Int) + 1)), (8, .int .i64 0), (0, .slice da dn dc), (1, .int .i64 ((a : Nat) : Int))]) rfl ?_
  refine W.loop (fun m Γ' w' => ∃ i : Nat, ∃ j : Int, ∃ ys : List Int, Γ' = [(10, .int .i64 j), (9, .int .i64 ((i : Nat) : Int)), (8, .int .i64 0), (0, .slice da dn dc), (1, .int .i64 ((a : Nat) : Int))] ∧ UpG w [rowT (tyI .u8) (.slice da dn dc) 5 xs] w' [[rowT (tyI .u8) (.slice da dn dc) 5 ys]] ∧ (a < i ∧ ((i : Int) ≤ j + 1 ∨ (a : Int) + 2 ≤ (i : Int) ∧ (i : Int) ≤ j + 2) ∧ j < (b : Int)) ∧ (ys.length = xs.length) ∧ (Go.Sort.partEqLoop Go.Sort.ltInt a i j.toNat ys.toArray = Go.Sort.partitionEqual Go.Sort.ltInt xs.toArray a b p) ∧ m = (j + 1 - i).toNat) (((((b : Nat) : Int) - 1) + 1 - (a + 1)).toNat) ⟨a + 1, ((b : Nat) : Int) - 1, (xs.set a (xs.getD p 0)).set p (xs.getD a 0), rfl, H3, (by omega), (by rw [sw_len']), (by unfold Go.Sort.partitionEqual; rw [sw_arr]; congr 1; omega), rfl⟩ ?_
  rintro m1 Γ1 w4 ⟨i, j, ys, rfl, H4, hij, hzys, hI, rfl⟩
  have hya : a < ys.length := by omega
  refine W.block ?_
  refine W.cut (fun Γ' w' => ∃ i2 : Nat, Γ' = [(10, .int .i64 j), (9, .int .i64 ((i2 : Nat) : Int)), (8, .int .i64 0), (0, .slice da dn dc), (1, .int .i64 ((a : Nat) : Int))] ∧ UpG w [rowT (tyI .u8) (.slice da dn dc) 5 xs] w' [[rowT (tyI .u8) (.slice da dn dc) 5 ys]] ∧ (i ≤ i2 ∧ ((i2 : Int) ≤ j + 1 ∨ i2 = i)) ∧ (Go.Sort.scanUp (qU (ys.getD a 0)) ys.toArray j.toNat i = i2)) ?_ ?_
  · skip
    refine W.block ?_
    refine W.pick [10, 9, 8, 0, 1] (Γ' := [(10, .int .i64 j), (9, .int .i64 ((i : Nat) : Int)), (8, .int .i64 0), (0, .slice da dn dc), (1, .int .i64 ((a : Nat) : Int))]) rfl ?_
    refine W.loop (fun m Γ' w' => ∃ i1 : Nat, Γ' = [(10, .int .i64 j), (9, .int .i64 ((i1 : Nat) : Int)), (8, .int .i64 0), (0, .slice da dn dc), (1, .int .i64 ((a : Nat) : Int))] ∧ UpG w [rowT (tyI .u8) (.slice da dn dc) 5 xs] w' [[rowT (tyI .u8) (.slice da dn dc) 5 ys]] ∧ (i ≤ i1 ∧ ((i1 : Int) ≤ j + 1 ∨ i1 = i)) ∧ (Go.Sort.scanUp (qU (ys.getD a 0)) ys.toArray j.toNat i = Go.Sort.scanUp (qU (ys.getD a 0)) ys.toArray j.toNat i1) ∧ m = (j + 1 - i1).toNat) ((j + 1 - i).toNat) ⟨i, rfl, H4, (by omega), (by rfl), rfl⟩ ?_
    rintro m2 Γ2 w5 ⟨i1, rfl, H5, hi1, hu, rfl⟩
    refine W.seq ?_
    refine W.seq ?_
    refine W.regionD mixed (by kernel_rfl) fun hok2 w6 k2 => ?_
    have H6 : UpG w [rowT (tyI .u8) (.slice da dn dc) 5 xs] w6 [[rowT (tyI .u8) (.slice da dn dc) 5 ys]] := H5.kept k2
    refine WD.take hok2 0 (.int .i64 ((i1 : Nat) : Int)) (fun _ => True) rfl rfl rfl rfl rfl trivial (.inl ⟨rfl, fun _ _ => d_move rfl ⟨rfl, rfl⟩⟩) ?_
    refine WD.take hok2 1 (.int .i64 j) (fun _ => True) rfl rfl rfl rfl rfl trivial (.inl ⟨rfl, fun _ _ => d_move rfl ⟨rfl, rfl⟩⟩) ?_
    refine WD.take hok2 2 (.bool (decide (((i1 : Nat) : Int) ≤ j))) (fun _ => True) rfl rfl rfl rfl rfl trivial (.inl ⟨rfl, fun _ _ => d_cmp (decide (((i1 : Nat) : Int) ≤ j)) rfl rfl rfl ⟨rfl, rfl⟩⟩) ?_
    refine WD.take hok2 3 (.bool (decide (((i1 : Nat) : Int) ≤ j))) (fun _ => True) rfl rfl rfl rfl rfl trivial (.inl ⟨rfl, fun _ _ => d_move rfl ⟨rfl, rfl⟩⟩) ?_
    refine WD.part 32 (p := ((i1 : Nat) : Int) ≤ j) rfl (fun g180 => ?_) (fun g180 => ?_)
    · skip
      refine WD.take hok2 4 (.slice da dn dc) (fun _ => True) rfl rfl rfl rfl rfl trivial (.inl ⟨rfl, fun _ _ => d_move rfl ⟨rfl, rfl⟩⟩) ?_
      refine WD.take hok2 5 (.int .i64 ((a : Nat) : Int)) (fun _ => True) rfl rfl rfl rfl rfl trivial (.inl ⟨rfl, fun _ _ => d_move rfl ⟨rfl, rfl⟩⟩) ?_
      refine WD.take hok2 6 (elemPtr (.slice da dn dc) a) (fun w' => RdT (tyI .u8) w' (.slice da dn dc) ys) rfl rfl rfl rfl rfl (H6.rdT 0 rfl) (.inl ⟨rfl, fun _ hC => t_addr1 a (T := (tyI .u8)) rfl Try.underlying85 sz5 rfl rfl hC rfl (by first | omega | (simp only [List.length_set]; omega)) ⟨rfl, rfl⟩⟩) ?_
      refine WD.take hok2 7 (.int .u8 (ys.getD a 0)) (fun w' => RdT (tyI .u8) w' (.slice da dn dc) ys) rfl rfl rfl rfl rfl (H6.rdT 0 rfl) (.inl ⟨rfl, fun _ hC => t_load1 a 0 (T := (tyI .u8)) rfl Try.underlying5 rfl rfl hC (by first | omega | (simp only [List.length_set]; omega)) rfl ⟨rfl, rfl⟩⟩) ?_
      refine WD.take hok2 8 (.slice da dn dc) (fun _ => True) rfl rfl rfl rfl rfl trivial (.inl ⟨rfl, fun _ _ => d_move rfl ⟨rfl, rfl⟩⟩) ?_
      refine WD.take hok2 9 (.int .i64 ((i1 : Nat) : Int)) (fun _ => True) rfl rfl rfl rfl rfl trivial (.inl ⟨rfl, fun _ _ => d_move rfl ⟨rfl, rfl⟩⟩) ?_
      refine WD.take hok2 10 (elemPtr (.slice da dn dc) i1) (fun w' => RdT (tyI .u8) w' (.slice da dn dc) ys) rfl rfl rfl rfl rfl (H6.rdT 0 rfl) (.inl ⟨rfl, fun _ hC => t_addr1 i1 (T := (tyI .u8)) rfl Try.underlying85 sz5 rfl rfl hC rfl (by first | omega | (simp only [List.length_set]; omega)) ⟨rfl, rfl⟩⟩) ?_
      refine WD.take hok2 11 (.int .u8 (ys.getD i1 0)) (fun w' => RdT (tyI .u8) w' (.slice da dn dc) ys) rfl rfl rfl rfl rfl (H6.rdT 0 rfl) (.inl ⟨rfl, fun _ hC => t_load1 i1 0 (T := (tyI .u8)) rfl Try.underlying5 rfl rfl hC (by first | omega | (simp only [List.length_set]; omega)) rfl ⟨rfl, rfl⟩⟩) ?_
      refine WD.loud hok2 12 rfl (⟨_, [], rfl, rfl, rfl, rfl, rfl, rfl, d_call ok124 rfl (Ret.calls (less8_any (ys.getD a 0) (ys.getD i1 0) w6  ) fun _ w7 p1 => ?_)⟩)
      obtain ⟨rfl, u3⟩ := p1
      have H7 : UpG w [rowT (tyI .u8) (.slice da dn dc) 5 xs] w7 [[rowT (tyI .u8) (.slice da dn dc) 5 ys]] := H6.call u3
      refine ⟨trivial, ?_⟩
      refine WD.take hok2 13 (.bool (decide (¬ ((ys.getD a 0) < (ys.getD i1 0))))) (fun _ => True) rfl rfl rfl rfl rfl trivial (.inl ⟨rfl, fun _ _ => d_not (p := (ys.getD a 0) < (ys.getD i1 0)) rfl ⟨rfl, rfl⟩⟩) ?_
      refine WD.take hok2 14 (.bool (decide (¬ ((ys.getD a 0) < (ys.getD i1 0))))) (fun _ => True) rfl rfl rfl rfl rfl trivial (.inl ⟨rfl, fun _ _ => d_pick rfl rfl ⟨rfl, rfl⟩⟩) ?_
      refine WD.done hok2 rfl (X.then_code ?_)
      refine W.ite (p := ¬ ((ys.getD a 0) < (ys.getD i1 0))) rfl (fun c180 => ?_) (fun c180 => ?_)
      · skip
        refine W.skip (X.then_code ?_)
        refine W.block ?_
        refine W.region ?_
        refine WL.op rfl (d_move rfl ?_)
        refine WL.op rfl (d_add rfl rfl (by omega) (by omega) ?_)
        refine WL.op rfl (d_assign rfl ?_)
        refine WL.done (X.block_normal ?_)
        exact X.next [10, 9, 8, 0, 1] (Γ' := [(10, .int .i64 j), (9, .int .i64 (((i1 + 1) : Nat) : Int)), (8, .int .i64 0), (0, .slice da dn dc), (1, .int .i64 ((a : Nat) : Int))]) rfl ((j + 1 - (i1 + 1)).toNat) (by omega) ⟨i1 + 1, rfl, H7, (by omega), (by rw [hu]; exact su_go (by omega) (by simpa [qU, lt_iff] using c180)), rfl⟩
      · skip
        refine W.exit (X.then_exit (X.then_exit (X.block_exit ?_)))
        exact X.cut [10, 9, 8, 0, 1] (Γ' := [(10, .int .i64 j), (9, .int .i64 ((i1 : Nat) : Int)), (8, .int .i64 0), (0, .slice da dn dc), (1, .int .i64 ((a : Nat) : Int))]) rfl ⟨i1, rfl, H7, (by omega), (by exact hu.trans (su_end (p := qU (ys.getD a 0)) (fun h => by first | exact absurd h.1 (by omega) | exact absurd h.2 (by simpa [pU, pD, qU, qD, lt_iff] using c180))))⟩
    · skip
      refine WD.take hok2 4 undef (fun _ => True) rfl rfl rfl rfl rfl trivial (.inr ⟨rfl, rfl⟩) ?_
      refine WD.take hok2 5 undef (fun _ => True) rfl rfl rfl rfl rfl trivial (.inr ⟨rfl, rfl⟩) ?_
      refine WD.take hok2 6 undef (fun _ => True) rfl rfl rfl rfl rfl trivial (.inr ⟨rfl, rfl⟩) ?_
      refine WD.take hok2 7 undef (fun _ => True) rfl rfl rfl rfl rfl trivial (.inr ⟨rfl, rfl⟩) ?_
      refine WD.take hok2 8 undef (fun _ => True) rfl rfl rfl rfl rfl trivial (.inr ⟨rfl, rfl⟩) ?_
      refine WD.take hok2 9 undef (fun _ => True) rfl rfl rfl rfl rfl trivial (.inr ⟨rfl, rfl⟩) ?_
      refine WD.take hok2 10 undef (fun _ => True) rfl rfl rfl rfl rfl trivial (.inr ⟨rfl, rfl⟩) ?_
      refine WD.take hok2 11 undef (fun _ => True) rfl rfl rfl rfl rfl trivial (.inr ⟨rfl, rfl⟩) ?_
      refine WD.take hok2 12 undef (fun _ => True) rfl rfl rfl rfl rfl trivial (.inr ⟨rfl, rfl⟩) ?_
      refine WD.take hok2 13 undef (fun _ => True) rfl rfl rfl rfl rfl trivial (.inr ⟨rfl, rfl⟩) ?_
      refine WD.take hok2 14 (.bool false) (fun _ => True) rfl rfl rfl rfl rfl trivial (.inl ⟨rfl, fun _ _ => d_pick rfl rfl ⟨rfl, rfl⟩⟩) ?_
      refine WD.done hok2 rfl (X.then_code ?_)
      refine W.iff rfl ?_
      refine W.exit (X.then_exit (X.then_exit (X.block_exit ?_)))
      exact X.cut [10, 9, 8, 0, 1] (Γ' := [(10, .int .i64 j), (9, .int .i64 ((i1 : Nat) : Int)), (8, .int .i64 0), (0, .slice da dn dc), (1, .int .i64 ((a : Nat) : Int))]) rfl ⟨i1, rfl, H6, (by omega), (by exact hu.trans (su_end (p := qU (ys.getD a 0)) (fun h => by first | exact absurd h.1 (by omega) | exact absurd h.2 (by simpa [pU, pD, qU, qD, lt_iff] using c180))))⟩
  rintro Γ3 w8 ⟨i2, rfl, H8, hi2, hU⟩
  refine W.cut (fun Γ' w' => ∃ j2 : Int, Γ' = [(10, .int .i64 j2), (9, .int .i64 ((i2 : Nat) : Int)), (8, .int .i64 0), (0, .slice da dn dc), (1, .int .i64 ((a : Nat) : Int))] ∧ UpG w [rowT (tyI .u8) (.slice da dn dc) 5 xs] w' [[rowT (tyI .u8) (.slice da dn dc) 5 ys]] ∧ (((i2 : Int) ≤ j2 + 1 ∨ j2 = j) ∧ j2 ≤ j) ∧ (Go.Sort.scanDown (qD (ys.getD a 0)) ys.toArray i2 j.toNat = j2.toNat)) ?_ ?_
  · skip
    refine W.block ?_
    refine W.pick [10, 9, 8, 0, 1] (Γ' := [(10, .int .i64 j), (9, .int .i64 ((i2 : Nat) : Int)), (8, .int .i64 0), (0, .slice da dn dc), (1, .int .i64 ((a : Nat) : Int))]) rfl ?_
    refine W.loop (fun m Γ' w' => ∃ j1 : Int, Γ' = [(10, .int .i64 j1), (9, .int .i64 ((i2 : Nat) : Int)), (8, .int .i64 0), (0, .slice da dn dc), (1, .int .i64 ((a : Nat) : Int))] ∧ UpG w [rowT (tyI .u8) (.slice da dn dc) 5 xs] w' [[rowT (tyI .u8) (.slice da dn dc) 5 ys]] ∧ (((i2 : Int) ≤ j1 + 1 ∨ j1 = j) ∧ j1 ≤ j) ∧ (Go.Sort.scanDown (qD (ys.getD a 0)) ys.toArray i2 j.toNat = Go.Sort.scanDown (qD (ys.getD a 0)) ys.toArray i2 j1.toNat) ∧ m = (j1 + 1).toNat) ((j + 1).toNat) ⟨j, rfl, H8, (by omega), (by rfl), rfl⟩ ?_
    rintro m3 Γ4 w9 ⟨j1, rfl, H9, hj1, hD, rfl⟩
    refine W.seq ?_
    refine W.seq ?_
    refine W.regionD mixed (by kernel_rfl) fun hok3 w10 k3 => ?_
    have H10 : UpG w [rowT (tyI .u8) (.slice da dn dc) 5 xs] w10 [[rowT (tyI .u8) (.slice da dn dc) 5 ys]] := H9.kept k3
    refine WD.take hok3 0 (.int .i64 ((i2 : Nat) : Int)) (fun _ => True) rfl rfl rfl rfl rfl trivial (.inl ⟨rfl, fun _ _ => d_move rfl ⟨rfl, rfl⟩⟩) ?_
    refine WD.take hok3 1 (.int .i64 j1) (fun _ => True) rfl rfl rfl rfl rfl trivial (.inl ⟨rfl, fun _ _ => d_move rfl ⟨rfl, rfl⟩⟩) ?_
    refine WD.take hok3 2 (.bool (decide (((i2 : Nat) : Int) ≤ j1))) (fun _ => True) rfl rfl rfl rfl rfl trivial (.inl ⟨rfl, fun _ _ => d_cmp (decide (((i2 : Nat) : Int) ≤ j1)) rfl rfl rfl ⟨rfl, rfl⟩⟩) ?_
    refine WD.take hok3 3 (.bool (decide (((i2 : Nat) : Int) ≤ j1))) (fun _ => True) rfl rfl rfl rfl rfl trivial (.inl ⟨rfl, fun _ _ => d_move rfl ⟨rfl, rfl⟩⟩) ?_
    refine WD.part 49 (p := ((i2 : Nat) : Int) ≤ j1) rfl (fun g183 => ?_) (fun g183 => ?_)
    · skip
      refine WD.take hok3 4 (.slice da dn dc) (fun _ => True) rfl rfl rfl rfl rfl trivial (.inl ⟨rfl, fun _ _ => d_move rfl ⟨rfl, rfl⟩⟩) ?_
      refine WD.take hok3 5 (.int .i64 ((a : Nat) : Int)) (fun _ => True) rfl rfl rfl rfl rfl trivial (.inl ⟨rfl, fun _ _ => d_move rfl ⟨rfl, rfl⟩⟩) ?_
      refine WD.take hok3 6 (elemPtr (.slice da dn dc) a) (fun w' => RdT (tyI .u8) w' (.slice da dn dc) ys) rfl rfl rfl rfl rfl (H10.rdT 0 rfl) (.inl ⟨rfl, fun _ hC => t_addr1 a (T := (tyI .u8)) rfl Try.underlying85 sz5 rfl rfl hC rfl (by first | omega | (simp only [List.length_set]; omega)) ⟨rfl, rfl⟩⟩) ?_
      refine WD.take hok3 7 (.int .u8 (ys.getD a 0)) (fun w' => RdT (tyI .u8) w' (.slice da dn dc) ys) rfl rfl rfl rfl rfl (H10.rdT 0 rfl) (.inl ⟨rfl, fun _ hC => t_load1 a 0 (T := (tyI .u8)) rfl Try.underlying5 rfl rfl hC (by first | omega | (simp only [List.length_set]; omega)) rfl ⟨rfl, rfl⟩⟩) ?_
      refine WD.take hok3 8 (.slice da dn dc) (fun _ => True) rfl rfl rfl rfl rfl trivial (.inl ⟨rfl, fun _ _ => d_move rfl ⟨rfl, rfl⟩⟩) ?_
      refine WD.take hok3 9 (.int .i64 j1) (fun _ => True) rfl rfl rfl rfl rfl trivial (.inl ⟨rfl, fun _ _ => d_move rfl ⟨rfl, rfl⟩⟩) ?_
      refine WD.take hok3 10 (elemPtr (.slice da dn dc) j1.toNat) (fun w' => RdT (tyI .u8) w' (.slice da dn dc) ys) rfl rfl rfl rfl rfl (H10.rdT 0 rfl) (.inl ⟨rfl, fun _ hC => t_addr1 j1.toNat (T := (tyI .u8)) rfl Try.underlying85 sz5 rfl rfl hC (by first | omega | (simp only [List.length_set]; omega)) (by first | omega | (simp only [List.length_set]; omega)) ⟨rfl, rfl⟩⟩) ?_
      refine WD.take hok3 11 (.int .u8 (ys.getD j1.toNat 0)) (fun w' => RdT (tyI .u8) w' (.slice da dn dc) ys) rfl rfl rfl rfl rfl (H10.rdT 0 rfl) (.inl ⟨rfl, fun _ hC => t_load1 j1.toNat 0 (T := (tyI .u8)) rfl Try.underlying5 rfl rfl hC (by first | omega | (simp only [List.length_set]; omega)) rfl ⟨rfl, rfl⟩⟩) ?_
      refine WD.loud hok3 12 rfl (⟨_, [], rfl, rfl, rfl, rfl, rfl, rfl, d_call ok124 rfl (Ret.calls (less8_any (ys.getD a 0) (ys.getD j1.toNat 0) w10  ) fun _ w11 p2 => ?_)⟩)
      obtain ⟨rfl, u4⟩ := p2
      have H11 : UpG w [rowT (tyI .u8) (.slice da dn dc) 5 xs] w11 [[rowT (tyI .u8) (.slice da dn dc) 5 ys]] := H10.call u4
      refine ⟨trivial, ?_⟩
      refine WD.take hok3 13 (.bool (decide ((ys.getD a 0) < (ys.getD j1.toNat 0)))) (fun _ => True) rfl rfl rfl rfl rfl trivial (.inl ⟨rfl, fun _ _ => d_pick rfl rfl ⟨rfl, rfl⟩⟩) ?_
      refine WD.done hok3 rfl (X.then_code ?_)
      refine W.ite (p := (ys.getD a 0) < (ys.getD j1.toNat 0)) rfl (fun c183 => ?_) (fun c183 => ?_)
      · skip
        refine W.skip (X.then_code ?_)
        refine W.block ?_
        refine W.region ?_
        refine WL.op rfl (d_move rfl ?_)
        refine WL.op rfl (d_sub rfl rfl (by omega) (by omega) ?_)
        refine WL.op rfl (d_assign rfl ?_)
        refine WL.done (X.block_normal ?_)
        exact X.next [10, 9, 8, 0, 1] (Γ' := [(10, .int .i64 (j1 - 1)), (9, .int .i64 ((i2 : Nat) : Int)), (8, .int .i64 0), (0, .slice da dn dc), (1, .int .i64 ((a : Nat) : Int))]) rfl (((j1 - 1) + 1).toNat) (by omega) ⟨j1 - 1, rfl, H11, (by omega), (by rw [hD]; exact sd_go (by omega) (by omega) (by simpa [qD, lt_iff] using c183)), rfl⟩
      · skip
        refine W.exit (X.then_exit (X.then_exit (X.block_exit ?_)))
        exact X.cut [10, 9, 8, 0, 1] (Γ' := [(10, .int .i64 j1), (9, .int .i64 ((i2 : Nat) : Int)), (8, .int .i64 0), (0, .slice da dn dc), (1, .int .i64 ((a : Nat) : Int))]) rfl ⟨j1, rfl, H11, (by omega), (by exact hD.trans (sd_end (p := qD (ys.getD a 0)) (by omega) (fun h => by first | exact absurd h.1 (by omega) | exact absurd h.2 (by simpa [pU, pD, qU, qD, lt_iff] using c183))))⟩
    · skip
      refine WD.take hok3 4 undef (fun _ => True) rfl rfl rfl rfl rfl trivial (.inr ⟨rfl, rfl⟩) ?_
      refine WD.take hok3 5 undef (fun _ => True) rfl rfl rfl rfl rfl trivial (.inr ⟨rfl, rfl⟩) ?_
      refine WD.take hok3 6 undef (fun _ => True) rfl rfl rfl rfl rfl trivial (.inr ⟨rfl, rfl⟩) ?_
      refine WD.take hok3 7 undef (fun _ => True) rfl rfl rfl rfl rfl trivial (.inr ⟨rfl, rfl⟩) ?_
      refine WD.take hok3 8 undef (fun _ => True) rfl rfl rfl rfl rfl trivial (.inr ⟨rfl, rfl⟩) ?_
      refine WD.take hok3 9 undef (fun _ => True) rfl rfl rfl rfl rfl trivial (.inr ⟨rfl, rfl⟩) ?_
      refine WD.take hok3 10 undef (fun _ => True) rfl rfl rfl rfl rfl trivial (.inr ⟨rfl, rfl⟩) ?_
      refine WD.take hok3 11 undef (fun _ => True) rfl rfl rfl rfl rfl trivial (.inr ⟨rfl, rfl⟩) ?_
      refine WD.take hok3 12 undef (fun _ => True) rfl rfl rfl rfl rfl trivial (.inr ⟨rfl, rfl⟩) ?_
      refine WD.take hok3 13 (.bool false) (fun _ => True) rfl rfl rfl rfl rfl trivial (.inl ⟨rfl, fun _ _ => d_pick rfl rfl ⟨rfl, rfl⟩⟩) ?_
      refine WD.done hok3 rfl (X.then_code ?_)
      refine W.iff rfl ?_
      refine W.exit (X.then_exit (X.then_exit (X.block_exit ?_)))
      exact X.cut [10, 9, 8, 0, 1] (Γ' := [(10, .int .i64 j1), (9, .int .i64 ((i2 : Nat) : Int)), (8, .int .i64 0), (0, .slice da dn dc), (1, .int .i64 ((a : Nat) : Int))]) rfl ⟨j1, rfl, H10, (by omega), (by exact hD.trans (sd_end (p := qD (ys.getD a 0)) (by omega) (fun h => by first | exact absurd h.1 (by omega) | exact absurd h.2 (by simpa [pU, pD, qU, qD, lt_iff] using c183))))⟩
  rintro Γ5 w12 ⟨j2, rfl, H12, hj2, hDn⟩
  refine W.seq ?_
  refine W.seq ?_
  refine W.region ?_
  refine WL.op rfl (d_move rfl ?_)
  refine WL.op rfl (d_move rfl ?_)
  refine WL.op rfl (d_cmp (decide (((i2 : Nat) : Int) > j2)) rfl rfl rfl ?_)
  refine WL.done (X.then_code ?_)
  refine W.ite (p := ((i2 : Nat) : Int) > j2) rfl (fun c186 => ?_) (fun c186 => ?_)
  · skip
    refine W.exit (X.then_exit (X.block_exit' rfl (X.then_exit (X.block_exit (X.then_code ?_)))))
    refine W.seq ?_
    refine W.region ?_
    refine WL.op rfl (d_move rfl ?_)
    refine WL.op rfl (d_assign rfl ?_)
    refine WL.done (X.then_code ?_)
    refine W.ret (X.ret1 rfl rfl ?_)
    have e : Go.Sort.partitionEqual Go.Sort.ltInt xs.toArray a b p = (i2, ys.toArray) := hI.symm.trans (pe_end hU hDn (by omega) c186)
    rw [e]
    exact ⟨(by rfl), (Upd.sel H12 (l := [0]) rfl rfl)⟩
  · skip
    refine W.skip (X.then_code ?_)
    refine W.seq ?_
    refine W.regionD mixed (by kernel_rfl) fun hok4 w13 k4 => ?_
    have H13 : UpG w [rowT (tyI .u8) (.slice da dn dc) 5 xs] w13 [[rowT (tyI .u8) (.slice da dn dc) 5 ys]] := H12.kept k4
    refine WD.take hok4 0 (.slice da dn dc) (fun _ => True) rfl rfl rfl rfl rfl trivial (.inl ⟨rfl, fun _ _ => d_move rfl ⟨rfl, rfl⟩⟩) ?_
    refine WD.take hok4 1 (.int .i64 ((i2 : Nat) : Int)) (fun _ => True) rfl rfl rfl rfl rfl trivial (.inl ⟨rfl, fun _ _ => d_move rfl ⟨rfl, rfl⟩⟩) ?_
    refine WD.take hok4 2 (.slice da dn dc) (fun _ => True) rfl rfl rfl rfl rfl trivial (.inl ⟨rfl, fun _ _ => d_move rfl ⟨rfl, rfl⟩⟩) ?_
    refine WD.take hok4 3 (.int .i64 j2) (fun _ => True) rfl rfl rfl rfl rfl trivial (.inl ⟨rfl, fun _ _ => d_move rfl ⟨rfl, rfl⟩⟩) ?_
    refine WD.take hok4 4 (.slice da dn dc) (fun _ => True) rfl rfl rfl rfl rfl trivial (.inl ⟨rfl, fun _ _ => d_move rfl ⟨rfl, rfl⟩⟩) ?_
    refine WD.take hok4 5 (.int .i64 j2) (fun _ => True) rfl rfl rfl rfl rfl trivial (.inl ⟨rfl, fun _ _ => d_move rfl ⟨rfl, rfl⟩⟩) ?_
    refine WD.take hok4 6 (elemPtr (.slice da dn dc) j2.toNat) (fun w' => RdT (tyI .u8) w' (.slice da dn dc) ys) rfl rfl rfl rfl rfl (H13.rdT 0 rfl) (.inl ⟨rfl, fun _ hC => t_addr1 j2.toNat (T := (tyI .u8)) rfl Try.underlying85 sz5 rfl rfl hC (by first | omega | (simp only [List.length_set]; omega)) (by first | omega | (simp only [List.length_set]; omega)) ⟨rfl, rfl⟩⟩) ?_
    refine WD.take hok4 7 (.int .u8 (ys.getD j2.toNat 0)) (fun w' => RdT (tyI .u8) w' (.slice da dn dc) ys) rfl rfl rfl rfl rfl (H13.rdT 0 rfl) (.inl ⟨rfl, fun _ hC => t_load1 j2.toNat 0 (T := (tyI .u8)) rfl Try.underlying5 rfl rfl hC (by first | omega | (simp only [List.length_set]; omega)) rfl ⟨rfl, rfl⟩⟩) ?_
    refine WD.take hok4 8 (.slice da dn dc) (fun _ => True) rfl rfl rfl rfl rfl trivial (.inl ⟨rfl, fun _ _ => d_move rfl ⟨rfl, rfl⟩⟩) ?_
    refine WD.take hok4 9 (.int .i64 ((i2 : Nat) : Int)) (fun _ => True) rfl rfl rfl rfl rfl trivial (.inl ⟨rfl, fun _ _ => d_move rfl ⟨rfl, rfl⟩⟩) ?_
    refine WD.take hok4 10 (elemPtr (.slice da dn dc) i2) (fun w' => RdT (tyI .u8) w' (.slice da dn dc) ys) rfl rfl rfl rfl rfl (H13.rdT 0 rfl) (.inl ⟨rfl, fun _ hC => t_addr1 i2 (T := (tyI .u8)) rfl Try.underlying85 sz5 rfl rfl hC rfl (by first | omega | (simp only [List.length_set]; omega)) ⟨rfl, rfl⟩⟩) ?_
    refine WD.take hok4 11 (.int .u8 (ys.getD i2 0)) (fun w' => RdT (tyI .u8) w' (.slice da dn dc) ys) rfl rfl rfl rfl rfl (H13.rdT 0 rfl) (.inl ⟨rfl, fun _ hC => t_load1 i2 0 (T := (tyI .u8)) rfl Try.underlying5 rfl rfl hC (by first | omega | (simp only [List.length_set]; omega)) rfl ⟨rfl, rfl⟩⟩) ?_
    refine WD.take hok4 12 (elemPtr (.slice da dn dc) i2) (fun w' => RdT (tyI .u8) w' (.slice da dn dc) ys) rfl rfl rfl rfl rfl (H13.rdT 0 rfl) (.inl ⟨rfl, fun _ hC => t_addr1 i2 (T := (tyI .u8)) rfl Try.underlying85 sz5 rfl rfl hC rfl (by first | omega | (simp only [List.length_set]; omega)) ⟨rfl, rfl⟩⟩) ?_
    refine WD.loud hok4 13 rfl (⟨_, [⟨3, .int .i64 j2, (fun _ => True)⟩, ⟨2, .slice da dn dc, (fun _ => True)⟩], rfl, rfl, rfl, rfl, rfl, rfl, t_store1 i2 (ys.getD j2.toNat 0) (T := (tyI .u8)) (e := 5) rfl sz5 rfl rfl rfl (H13.ownT 0 rfl) (by first | omega | (simp only [List.length_set]; omega)) fun w14 u5 => ?_⟩)
    have H14 : UpG w [rowT (tyI .u8) (.slice da dn dc) 5 xs] w14 [[rowT (tyI .u8) (.slice da dn dc) 5 (ys.set i2 (ys.getD j2.toNat 0))]] := H13.on 0 rfl u5
    refine ⟨⟨trivial, trivial, trivial⟩, ?_⟩
    refine WD.take hok4 14 (elemPtr (.slice da dn dc) j2.toNat) (fun w' => RdT (tyI .u8) w' (.slice da dn dc) (ys.set i2 (ys.getD j2.toNat 0))) rfl rfl rfl rfl rfl (H14.rdT 0 rfl) (.inl ⟨rfl, fun _ hC => t_addr1 j2.toNat (T := (tyI .u8)) rfl Try.underlying85 sz5 rfl rfl hC (by first | omega | (simp only [List.length_set]; omega)) (by first | omega | (simp only [List.length_set]; omega)) ⟨rfl, rfl⟩⟩) ?_
    refine WD.loud hok4 15 rfl (⟨_, [], rfl, rfl, rfl, rfl, rfl, rfl, t_store1 j2.toNat (ys.getD i2 0) (T := (tyI .u8)) (e := 5) rfl sz5 rfl rfl rfl (H14.ownT 0 rfl) (by first | omega | (simp only [List.length_set]; omega)) fun w15 u6 => ?_⟩)
    have H15 : UpG w [rowT (tyI .u8) (.slice da dn dc) 5 xs] w15 [[rowT (tyI .u8) (.slice da dn dc) 5 ((ys.set i2 (ys.getD j2.toNat 0)).set j2.toNat (ys.getD i2 0))]] := H14.on 0 rfl u6
    refine ⟨trivial, ?_⟩
    refine WD.done hok4 rfl (X.then_code ?_)
    refine W.seq ?_
    refine W.region ?_
    refine WL.op rfl (d_move rfl ?_)
    refine WL.op rfl (d_add rfl rfl (by omega) (by omega) ?_)
    refine WL.op rfl (d_assign rfl ?_)
    refine WL.done (X.then_code ?_)
    refine W.region ?_
    refine WL.op rfl (d_move rfl ?_)
    refine WL.op rfl (d_sub rfl rfl (by omega) (by omega) ?_)
    refine WL.op rfl (d_assign rfl ?_)
    refine WL.done (X.block_normal ?_)
    exact X.next [10, 9, 8, 0, 1] (Γ' := [(10, .int .i64 (j2 - 1)), (9, .int .i64 (((i2 + 1) : Nat) : Int)), (8, .int .i64 0), (0, .slice da dn dc), (1, .int .i64 ((a : Nat) : Int))]) rfl (((j2 - 1) + 1 - (i2 + 1)).toNat) (by omega) ⟨i2 + 1, j2 - 1, (ys.set i2 (ys.getD j2.toNat 0)).set j2.toNat (ys.getD i2 0), rfl, H15, (by omega), (by rw [sw_len']; exact hzys), (by exact (pe_go hU hDn (by omega) c186).symm.trans hI), rfl⟩

set_option maxHeartbeats 4000000 in
set_option maxRecDepth 20000 in
theorem part8_any (da : Option Addr) (xs : List Int) (dc : Nat) (dn : Nat) (aI : Int) (a : Nat) (bI : Int) (b : Nat) (pI : Int) (p : Nat) (w : World) (hp : Hp w [rowT (tyI .u8) (.slice da dn dc) 5 xs]) (e_a : aI = ((a : Nat) : Int)) (e_b : bI = ((b : Nat) : Int)) (e_p : pI = ((p : Nat) : Int)) (hab : a ≤ p ∧ p < b ∧ b ≤ xs.length ∧ xs.length ≤ 1000000 ∧ a + 1 < b) :
    Calls Try.prog 126 #[.slice da dn dc, .int .i64 aI, .int .i64 bI, .int .i64 pI] w (Ret fun v w' => v = .tuple #[.int .i64 (((Go.Sort.partition Go.Sort.ltInt xs.toArray a b p).1 : Nat) : Int), .bool ((Go.Sort.partition Go.Sort.ltInt xs.toArray a b p).2.1)] ∧ Upd w [rowT (tyI .u8) (.slice da dn dc) 5 xs] w' [rowT (tyI .u8) (.slice da dn dc) 5 ((Go.Sort.partition Go.Sort.ltInt xs.toArray a b p).2.2.toList)]) := by
  subst e_a
  subst e_b
  subst e_p
  have hn := (hp_rdT hp (List.mem_of_getElem? (i := 0) rfl)).len
  have hzd : (sw xs a p).length = xs.length := sw_len _ _ _
  have hzd2 : ((xs.set a (xs.getD p 0)).set p (xs.getD a 0)).length = xs.length := sw_len'
  refine calls_of_W (args := [.slice da dn dc, .int .i64 ((a : Nat) : Int), .int .i64 ((b : Nat) : Int), .int .i64 ((p : Nat) : Int)]) Try.func126 rfl rfl rfl ?_
  have H0 : UpG w [rowT (tyI .u8) (.slice da dn dc) 5 xs] w [[rowT (tyI .u8) (.slice da dn dc) 5 xs]] := (UpG.refl hp).re rfl
  show W _ _ _ _ [(0, .slice da dn dc), (1, .int .i64 ((a : Nat) : Int)), (2, .int .i64 ((b : Nat) : Int)), (3, .int .i64 ((p : Nat) : Int))] w
  refine W.seq ?_
  refine W.region ?_
  refine WL.op rfl (d_assign rfl ?_)
  refine WL.op rfl (d_assign rfl ?_)
  refine WL.done (X.then_code ?_)
  refine W.seq ?_
  refine W.regionD mixed (by kernel_rfl) fun hok1 w1 k1 => ?_
  have H1 : UpG w [rowT (tyI .u8) (.slice da dn dc) 5 xs] w1 [[rowT (tyI .u8) (.slice da dn dc) 5 xs]] := H0.kept k1
  refine WD.take hok1 0 (.slice da dn dc) (fun _ => True) rfl rfl rfl rfl rfl trivial (.inl ⟨rfl, fun _ _ => d_move rfl ⟨rfl, rfl⟩⟩) ?_
  refine WD.take hok1 1 (.int .i64 ((a : Nat) : Int)) (fun _ => True) rfl rfl rfl rfl rfl trivial (.inl ⟨rfl, fun _ _ => d_move rfl ⟨rfl, rfl⟩⟩) ?_
  refine WD.take hok1 2 (.slice da dn dc) (fun _ => True) rfl rfl rfl rfl rfl trivial (.inl ⟨rfl, fun _ _ => d_move rfl ⟨rfl, rfl⟩⟩) ?_
  refine WD.take hok1 3 (.int .i64 ((p : Nat) : Int)) (fun _ => True) rfl rfl rfl rfl rfl trivial (.inl ⟨rfl, fun _ _ => d_move rfl ⟨rfl, rfl⟩⟩) ?_
  refine WD.take hok1 4 (.slice da dn dc) (fun _ => True) rfl rfl rfl rfl rfl trivial (.inl ⟨rfl, fun _ _ => d_move rfl ⟨rfl, rfl⟩⟩) ?_
  refine WD.take hok1 5 (.int .i64 ((p : Nat) : Int)) (fun _ => True) rfl rfl rfl rfl rfl trivial (.inl ⟨rfl, fun _ _ => d_move rfl ⟨rfl, rfl⟩⟩) ?_
  refine WD.take hok1 6 (elemPtr (.slice da dn dc) p) (fun w' => RdT (tyI .u8) w' (.slice da dn dc) xs) rfl rfl rfl rfl rfl (H1.rdT 0 rfl) (.inl ⟨rfl, fun _ hC => t_addr1 p (T := (tyI .u8)) rfl Try.underlying85 sz5 rfl rfl hC rfl (by first | omega | (simp only [List.length_set]; omega)) ⟨rfl, rfl⟩⟩) ?_
  refine WD.take hok1 7 (.int .u8 (xs.getD p 0)) (fun w' => RdT (tyI .u8) w' (.slice da dn dc) xs) rfl rfl rfl rfl rfl (H1.rdT 0 rfl) (.inl ⟨rfl, fun _ hC => t_load1 p 0 (T := (tyI .u8)) rfl Try.underlying5 rfl rfl hC (by first | omega | (simp only [List.length_set]; omega)) rfl ⟨rfl, rfl⟩⟩) ?_
  refine WD.take hok1 8 (.slice da dn dc) (fun _ => True) rfl rfl rfl rfl rfl trivial (.inl ⟨rfl, fun _ _ => d_move rfl ⟨rfl, rfl⟩⟩) ?_
  refine WD.take hok1 9 (.int .i64 ((a : Nat) : Int)) (fun _ => True) rfl rfl rfl rfl rfl trivial (.inl ⟨rfl, fun _ _ => d_move rfl ⟨rfl, rfl⟩⟩) ?_
  refine WD.take hok1 10 (elemPtr (.slice da dn dc) a) (fun w' => RdT (tyI .u8) w' (.slice da dn dc) xs) rfl rfl rfl rfl rfl (H1.rdT 0 rfl) (.inl ⟨rfl, fun _ hC => t_addr1 a (T := (tyI .u8)) rfl Try.underlying85 sz5 rfl rfl hC rfl (by first | omega | (simp only [List.length_set]; omega)) ⟨rfl, rfl⟩⟩) ?_
  refine WD.take hok1 11 (.int .u8 (xs.getD a 0)) (fun w' => RdT (tyI .u8) w' (.slice da dn dc) xs) rfl rfl rfl rfl rfl (H1.rdT 0 rfl) (.inl ⟨rfl, fun _ hC => t_load1 a 0 (T := (tyI .u8)) rfl Try.underlying5 rfl rfl hC (by first | omega | (simp only [List.length_set]; omega)) rfl ⟨rfl, rfl⟩⟩) ?_
  refine WD.take hok1 12 (elemPtr (.slice da dn dc) a) (fun w' => RdT (tyI .u8) w' (.slice da dn dc) xs) rfl rfl rfl rfl rfl (H1.rdT 0 rfl) (.inl ⟨rfl, fun _ hC => t_addr1 a (T := (tyI .u8)) rfl Try.underlying85 sz5 rfl rfl hC rfl (by first | omega | (simp only [List.length_set]; omega)) ⟨rfl, rfl⟩⟩) ?_
  refine WD.loud hok1 13 rfl (⟨_, [⟨3, .int .i64 ((p : Nat) : Int), (fun _ => True)⟩, ⟨2, .slice da dn dc, (fun _ => True)⟩], rfl, rfl, rfl, rfl, rfl, rfl, t_store1 a (xs.getD p 0) (T := (tyI .u8)) (e := 5) rfl sz5 rfl rfl rfl (H1.ownT 0 rfl) (by first | omega | (simp only [List.length_set]; omega)) fun w2 u1 => ?_⟩)
  have H2 : UpG w [rowT (tyI .u8) (.slice da dn dc) 5 xs] w2 [[rowT (tyI .u8) (.slice da dn dc) 5 (xs.set a (xs.getD p 0))]] := H1.on 0 rfl u1
  refine ⟨⟨trivial, trivial, trivial⟩, ?_⟩
  refine WD.take hok1 14 (elemPtr (.slice da dn dc) p) (fun w' => RdT (tyI .u8) w' (.slice da dn dc) (xs.set a (xs.getD p 0))) rfl rfl rfl rfl rfl (H2.rdT 0 rfl) (.inl ⟨rfl, fun _ hC => t_addr1 p (T := (tyI .u8)) rfl Try.underlying85 sz5 rfl rfl hC rfl (by first | omega | (simp only [List.length_set]; omega)) ⟨rfl, rfl⟩⟩) ?_
  refine WD.loud hok1 15 rfl (⟨_, [], rfl, rfl, rfl, rfl, rfl, rfl, t_store1 p (xs.getD a 0) (T := (tyI .u8)) (e := 5) rfl sz5 rfl rfl rfl (H2.ownT 0 rfl) (by first | omega | (simp only [List.length_set]; omega)) fun w3 u2 => ?_⟩)
  have H3 : UpG w [rowT (tyI .u8) (.slice da dn dc) 5 xs] w3 [[rowT (tyI .u8) (.slice da dn dc) 5 ((xs.set a (xs.getD p 0)).set p (xs.getD a 0))]] := H2.on 0 rfl u2
  refine ⟨trivial, ?_⟩
  refine WD.done hok1 rfl (X.then_code ?_)
  refine W.seq ?_
  refine W.region ?_
  refine WL.op rfl (d_move rfl ?_)
  refine WL.op rfl (d_add rfl rfl (by omega) (by omega) ?_)
  refine WL.op rfl (d_move rfl ?_)
  refine WL.op rfl (d_sub rfl rfl (by omega) (by omega) ?_)
  refine WL.op rfl (d_assign rfl ?_)
  refine WL.op rfl (d_assign rfl ?_)
  refine WL.done (X.then_code ?_)
  refine W.cut (fun Γ' w' => ∃ i : Nat, Γ' = [(11, .int .i64 (((b : Nat) : Int) - 1)), (10, .int .i64 ((i : Nat) : Int)), (9, .bool false), (8, .int .i64 0), (0, .slice da dn dc), (1, .int .i64 ((a : Nat) : Int))] ∧ UpG w [rowT (tyI .u8) (.slice da dn dc) 5 xs] w' [[rowT (tyI .u8) (.slice da dn dc) 5 ((xs.set a (xs.getD p 0)).set p (xs.getD a 0))]] ∧ (a + 1 ≤ i ∧ ((i : Int) ≤ (b : Int) - 1 + 1)) ∧ (Go.Sort.scanUp (pU ((sw xs a p).getD a 0)) (sw xs a p).toArray (b - 1) (a + 1) = i)) ?_ ?_
  · skip
    refine W.block ?_
    have hzd : (sw xs a p).length = xs.length := sw_len _ _ _
    have hzd2 : ((xs.set a (xs.getD p 0)).set p (xs.getD a 0)).length = xs.length := sw_len'
    refine W.pick [11, 10, 9, 8, 0, 1] (Γ' := [(11, .int .i64 (((b : Nat) : Int) - 1)), (10, .int .i64 (((a : Nat) : Int) + 1)), (9, .bool false), (8, .int .i64 0), (0, .slice da dn dc), (1, .int .i64 ((a : Nat) : Int))]) rfl ?_
    refine W.loop (fun m Γ' w' => ∃ i0 : Nat, Γ' = [(11, .int .i64 (((b : Nat) : Int) - 1)), (10, .int .i64 ((i0 : Nat) : Int)), (9, .bool false), (8, .int .i64 0), (0, .slice da dn dc), (1, .int .i64 ((a : Nat) : Int))] ∧ UpG w [rowT (tyI .u8) (.slice da dn dc) 5 xs] w' [[rowT (tyI .u8) (.slice da dn dc) 5 ((xs.set a (xs.getD p 0)).set p (xs.getD a 0))]] ∧ (a + 1 ≤ i0 ∧ ((i0 : Int) ≤ (b : Int) - 1 + 1)) ∧ (Go.Sort.scanUp (pU ((sw xs a p).getD a 0)) (sw xs a p).toArray (b - 1) (a + 1) = Go.Sort.scanUp (pU ((sw xs a p).getD a 0)) (sw xs a p).toArray (b - 1) i0) ∧ m = b - i0) (b - (a + 1)) ⟨a + 1, rfl, H3, (by omega), (by rfl), rfl⟩ ?_
    rintro m1 Γ1 w4 ⟨i0, rfl, H4, hi0, hu, rfl⟩
    refine W.seq ?_
    refine W.seq ?_
    refine W.regionD mixed (by kernel_rfl) fun hok2 w5 k2 => ?_
    have H5 : UpG w [rowT (tyI .u8) (.slice da dn dc) 5 xs] w5 [[rowT (tyI .u8) (.slice da dn dc) 5 ((xs.set a (xs.getD p 0)).set p (xs.getD a 0))]] := H4.kept k2
    refine WD.take hok2 0 (.int .i64 ((i0 : Nat) : Int)) (fun _ => True) rfl rfl rfl rfl rfl trivial (.inl ⟨rfl, fun _ _ => d_move rfl ⟨rfl, rfl⟩⟩) ?_
    refine WD.take hok2 1 (.int .i64 (((b : Nat) : Int) - 1)) (fun _ => True) rfl rfl rfl rfl rfl trivial (.inl ⟨rfl, fun _ _ => d_move rfl ⟨rfl, rfl⟩⟩) ?_
    refine WD.take hok2 2 (.bool (decide (((i0 : Nat) : Int) ≤ (((b : Nat) : Int) - 1)))) (fun _ => True) rfl rfl rfl rfl rfl trivial (.inl ⟨rfl, fun _ _ => d_cmp (decide (((i0 : Nat) : Int) ≤ (((b : Nat) : Int) - 1))) rfl rfl rfl ⟨rfl, rfl⟩⟩) ?_
    refine WD.take hok2 3 (.bool (decide (((i0 : Nat) : Int) ≤ (((b : Nat) : Int) - 1)))) (fun _ => True) rfl rfl rfl rfl rfl trivial (.inl ⟨rfl, fun _ _ => d_move rfl ⟨rfl, rfl⟩⟩) ?_
    refine WD.part 33 (p := ((i0 : Nat) : Int) ≤ (((b : Nat) : Int) - 1)) rfl (fun g141 => ?_) (fun g141 => ?_)
    · skip
      refine WD.take hok2 4 (.slice da dn dc) (fun _ => True) rfl rfl rfl rfl rfl trivial (.inl ⟨rfl, fun _ _ => d_move rfl ⟨rfl, rfl⟩⟩) ?_
      refine WD.take hok2 5 (.int .i64 ((i0 : Nat) : Int)) (fun _ => True) rfl rfl rfl rfl rfl trivial (.inl ⟨rfl, fun _ _ => d_move rfl ⟨rfl, rfl⟩⟩) ?_
      refine WD.take hok2 6 (elemPtr (.slice da dn dc) i0) (fun w' => RdT (tyI .u8) w' (.slice da dn dc) ((xs.set a (xs.getD p 0)).set p (xs.getD a 0))) rfl rfl rfl rfl rfl (H5.rdT 0 rfl) (.inl ⟨rfl, fun _ hC => t_addr1 i0 (T := (tyI .u8)) rfl Try.underlying85 sz5 rfl rfl hC rfl (by first | omega | (simp only [List.length_set]; omega)) ⟨rfl, rfl⟩⟩) ?_
      refine WD.take hok2 7 (.int .u8 (((xs.set a (xs.getD p 0)).set p (xs.getD a 0)).getD i0 0)) (fun w' => RdT (tyI .u8) w' (.slice da dn dc) ((xs.set a (xs.getD p 0)).set p (xs.getD a 0))) rfl rfl rfl rfl rfl (H5.rdT 0 rfl) (.inl ⟨rfl, fun _ hC => t_load1 i0 0 (T := (tyI .u8)) rfl Try.underlying5 rfl rfl hC (by first | omega | (simp only [List.length_set]; omega)) rfl ⟨rfl, rfl⟩⟩) ?_
      refine WD.take hok2 8 (.slice da dn dc) (fun _ => True) rfl rfl rfl rfl rfl trivial (.inl ⟨rfl, fun _ _ => d_move rfl ⟨rfl, rfl⟩⟩) ?_
      refine WD.take hok2 9 (.int .i64 ((a : Nat) : Int)) (fun _ => True) rfl rfl rfl rfl rfl trivial (.inl ⟨rfl, fun _ _ => d_move rfl ⟨rfl, rfl⟩⟩) ?_
      refine WD.take hok2 10 (elemPtr (.slice da dn dc) a) (fun w' => RdT (tyI .u8) w' (.slice da dn dc) ((xs.set a (xs.getD p 0)).set p (xs.getD a 0))) rfl rfl rfl rfl rfl (H5.rdT 0 rfl) (.inl ⟨rfl, fun _ hC => t_addr1 a (T := (tyI .u8)) rfl Try.underlying85 sz5 rfl rfl hC rfl (by first | omega | (simp only [List.length_set]; omega)) ⟨rfl, rfl⟩⟩) ?_
      refine WD.take hok2 11 (.int .u8 (((xs.set a (xs.getD p 0)).set p (xs.getD a 0)).getD a 0)) (fun w' => RdT (tyI .u8) w' (.slice da dn dc) ((xs.set a (xs.getD p 0)).set p (xs.getD a 0))) rfl rfl rfl rfl rfl (H5.rdT 0 rfl) (.inl ⟨rfl, fun _ hC => t_load1 a 0 (T := (tyI .u8)) rfl Try.underlying5 rfl rfl hC (by first | omega | (simp only [List.length_set]; omega)) rfl ⟨rfl, rfl⟩⟩) ?_
      refine WD.loud hok2 12 rfl (⟨_, [], rfl, rfl, rfl, rfl, rfl, rfl, d_call ok124 rfl (Ret.calls (less8_any (((xs.set a (xs.getD p 0)).set p (xs.getD a 0)).getD i0 0) (((xs.set a (xs.getD p 0)).set p (xs.getD a 0)).getD a 0) w5  ) fun _ w6 p1 => ?_)⟩)
      obtain ⟨rfl, u3⟩ := p1
      have H6 : UpG w [rowT (tyI .u8) (.slice da dn dc) 5 xs] w6 [[rowT (tyI .u8) (.slice da dn dc) 5 ((xs.set a (xs.getD p 0)).set p (xs.getD a 0))]] := H5.call u3
      refine ⟨trivial, ?_⟩
      refine WD.take hok2 13 (.bool (decide ((((xs.set a (xs.getD p 0)).set p (xs.getD a 0)).getD i0 0) < (((xs.set a (xs.getD p 0)).set p (xs.getD a 0)).getD a 0)))) (fun _ => True) rfl rfl rfl rfl rfl trivial (.inl ⟨rfl, fun _ _ => d_pick rfl rfl ⟨rfl, rfl⟩⟩) ?_
      refine WD.done hok2 rfl (X.then_code ?_)
      refine W.ite (p := (((xs.set a (xs.getD p 0)).set p (xs.getD a 0)).getD i0 0) < (((xs.set a (xs.getD p 0)).set p (xs.getD a 0)).getD a 0)) rfl (fun c141 => ?_) (fun c141 => ?_)
      · skip
        refine W.skip (X.then_code ?_)
        refine W.block ?_
        refine W.region ?_
        refine WL.op rfl (d_move rfl ?_)
        refine WL.op rfl (d_add rfl rfl (by omega) (by omega) ?_)
        refine WL.op rfl (d_assign rfl ?_)
        refine WL.done (X.block_normal ?_)
        exact X.next [11, 10, 9, 8, 0, 1] (Γ' := [(11, .int .i64 (((b : Nat) : Int) - 1)), (10, .int .i64 (((i0 + 1) : Nat) : Int)), (9, .bool false), (8, .int .i64 0), (0, .slice da dn dc), (1, .int .i64 ((a : Nat) : Int))]) rfl (b - (i0 + 1)) (by omega) ⟨i0 + 1, rfl, H6, (by omega), (by rw [hu]; exact su_go (xs := (sw xs a p)) (by omega) (by simpa [pU, lt_iff, sw] using c141)), rfl⟩
      · skip
        refine W.exit (X.then_exit (X.then_exit (X.block_exit ?_)))
        exact X.cut [11, 10, 9, 8, 0, 1] (Γ' := [(11, .int .i64 (((b : Nat) : Int) - 1)), (10, .int .i64 ((i0 : Nat) : Int)), (9, .bool false), (8, .int .i64 0), (0, .slice da dn dc), (1, .int .i64 ((a : Nat) : Int))]) rfl ⟨i0, rfl, H6, (by omega), (by exact hu.trans (su_end (xs := (sw xs a p)) (fun h => by first | exact absurd h.1 (by omega) | exact absurd h.2 (by simpa [pU, lt_iff, sw] using c141))))⟩
    · skip
      refine WD.take hok2 4 undef (fun _ => True) rfl rfl rfl rfl rfl trivial (.inr ⟨rfl, rfl⟩) ?_
      refine WD.take hok2 5 undef (fun _ => True) rfl rfl rfl rfl rfl trivial (.inr ⟨rfl, rfl⟩) ?_
      refine WD.take hok2 6 undef (fun _ => True) rfl rfl rfl rfl rfl trivial (.inr ⟨rfl, rfl⟩) ?_
      refine WD.take hok2 7 undef (fun _ => True) rfl rfl rfl rfl rfl trivial (.inr ⟨rfl, rfl⟩) ?_
      refine WD.take hok2 8 undef (fun _ => True) rfl rfl rfl rfl rfl trivial (.inr ⟨rfl, rfl⟩) ?_
      refine WD.take hok2 9 undef (fun _ => True) rfl rfl rfl rfl rfl trivial (.inr ⟨rfl, rfl⟩) ?_
      refine WD.take hok2 10 undef (fun _ => True) rfl rfl rfl rfl rfl trivial (.inr ⟨rfl, rfl⟩) ?_
      refine WD.take hok2 11 undef (fun _ => True) rfl rfl rfl rfl rfl trivial (.inr ⟨rfl, rfl⟩) ?_
      refine WD.take hok2 12 undef (fun _ => True) rfl rfl rfl rfl rfl trivial (.inr ⟨rfl, rfl⟩) ?_
      refine WD.take hok2 13 (.bool false) (fun _ => True) rfl rfl rfl rfl rfl trivial (.inl ⟨rfl, fun _ _ => d_pick rfl rfl ⟨rfl, rfl⟩⟩) ?_
      refine WD.done hok2 rfl (X.then_code ?_)
      refine W.iff rfl ?_
      refine W.exit (X.then_exit (X.then_exit (X.block_exit ?_)))
      exact X.cut [11, 10, 9, 8, 0, 1] (Γ' := [(11, .int .i64 (((b : Nat) : Int) - 1)), (10, .int .i64 ((i0 : Nat) : Int)), (9, .bool false), (8, .int .i64 0), (0, .slice da dn dc), (1, .int .i64 ((a : Nat) : Int))]) rfl ⟨i0, rfl, H5, (by omega), (by exact hu.trans (su_end (xs := (sw xs a p)) (fun h => by first | exact absurd h.1 (by omega) | exact absurd h.2 (by simpa [pU, lt_iff, sw] using c141))))⟩
  rintro Γ2 w7 ⟨i, rfl, H7, hi, hU⟩
  refine W.cut (fun Γ' w' => ∃ j : Int, Γ' = [(11, .int .i64 j), (10, .int .i64 ((i : Nat) : Int)), (9, .bool false), (8, .int .i64 0), (0, .slice da dn dc), (1, .int .i64 ((a : Nat) : Int))] ∧ UpG w [rowT (tyI .u8) (.slice da dn dc) 5 xs] w' [[rowT (tyI .u8) (.slice da dn dc) 5 ((xs.set a (xs.getD p 0)).set p (xs.getD a 0))]] ∧ ((i : Int) ≤ j + 1 ∧ j ≤ (b : Int) - 1) ∧ (Go.Sort.scanDown (pD ((sw xs a p).getD a 0)) (sw xs a p).toArray i (b - 1) = j.toNat)) ?_ ?_
  · skip
    refine W.block ?_
    refine W.pick [11, 10, 9, 8, 0, 1] (Γ' := [(11, .int .i64 (((b : Nat) : Int) - 1)), (10, .int .i64 ((i : Nat) : Int)), (9, .bool false), (8, .int .i64 0), (0, .slice da dn dc), (1, .int .i64 ((a : Nat) : Int))]) rfl ?_
    refine W.loop (fun m Γ' w' => ∃ j0 : Int, Γ' = [(11, .int .i64 j0), (10, .int .i64 ((i : Nat) : Int)), (9, .bool false), (8, .int .i64 0), (0, .slice da dn dc), (1, .int .i64 ((a : Nat) : Int))] ∧ UpG w [rowT (tyI .u8) (.slice da dn dc) 5 xs] w' [[rowT (tyI .u8) (.slice da dn dc) 5 ((xs.set a (xs.getD p 0)).set p (xs.getD a 0))]] ∧ ((i : Int) ≤ j0 + 1 ∧ j0 ≤ (b : Int) - 1) ∧ (Go.Sort.scanDown (pD ((sw xs a p).getD a 0)) (sw xs a p).toArray i (b - 1) = Go.Sort.scanDown (pD ((sw xs a p).getD a 0)) (sw xs a p).toArray i j0.toNat) ∧ m = (j0 + 1).toNat) (((((b : Nat) : Int) - 1) + 1).toNat) ⟨((b : Nat) : Int) - 1, rfl, H7, (by omega), (by rw [show ((b : Int) - 1).toNat = b - 1 by omega]), rfl⟩ ?_
    rintro m2 Γ3 w8 ⟨j0, rfl, H8, hj0, hd, rfl⟩
    refine W.seq ?_
    refine W.seq ?_
    refine W.regionD mixed (by kernel_rfl) fun hok3 w9 k3 => ?_
    have H9 : UpG w [rowT (tyI .u8) (.slice da dn dc) 5 xs] w9 [[rowT (tyI .u8) (.slice da dn dc) 5 ((xs.set a (xs.getD p 0)).set p (xs.getD a 0))]] := H8.kept k3
    refine WD.take hok3 0 (.int .i64 ((i : Nat) : Int)) (fun _ => True) rfl rfl rfl rfl rfl trivial (.inl ⟨rfl, fun _ _ => d_move rfl ⟨rfl, rfl⟩⟩) ?_
    refine WD.take hok3 1 (.int .i64 j0) (fun _ => True) rfl rfl rfl rfl rfl trivial (.inl ⟨rfl, fun _ _ => d_move rfl ⟨rfl, rfl⟩⟩) ?_
    refine WD.take hok3 2 (.bool (decide (((i : Nat) : Int) ≤ j0))) (fun _ => True) rfl rfl rfl rfl rfl trivial (.inl ⟨rfl, fun _ _ => d_cmp (decide (((i : Nat) : Int) ≤ j0)) rfl rfl rfl ⟨rfl, rfl⟩⟩) ?_
    refine WD.take hok3 3 (.bool (decide (((i : Nat) : Int) ≤ j0))) (fun _ => True) rfl rfl rfl rfl rfl trivial (.inl ⟨rfl, fun _ _ => d_move rfl ⟨rfl, rfl⟩⟩) ?_
    refine WD.part 49 (p := ((i : Nat) : Int) ≤ j0) rfl (fun g144 => ?_) (fun g144 => ?_)
    · skip
      refine WD.take hok3 4 (.slice da dn dc) (fun _ => True) rfl rfl rfl rfl rfl trivial (.inl ⟨rfl, fun _ _ => d_move rfl ⟨rfl, rfl⟩⟩) ?_
      refine WD.take hok3 5 (.int .i64 j0) (fun _ => True) rfl rfl rfl rfl rfl trivial (.inl ⟨rfl, fun _ _ => d_move rfl ⟨rfl, rfl⟩⟩) ?_
      refine WD.take hok3 6 (elemPtr (.slice da dn dc) j0.toNat) (fun w' => RdT (tyI .u8) w' (.slice da dn dc) ((xs.set a (xs.getD p 0)).set p (xs.getD a 0))) rfl rfl rfl rfl rfl (H9.rdT 0 rfl) (.inl ⟨rfl, fun _ hC => t_addr1 j0.toNat (T := (tyI .u8)) rfl Try.underlying85 sz5 rfl rfl hC (by first | omega | (simp only [List.length_set]; omega)) (by first | omega | (simp only [List.length_set]; omega)) ⟨rfl, rfl⟩⟩) ?_
      refine WD.take hok3 7 (.int .u8 (((xs.set a (xs.getD p 0)).set p (xs.getD a 0)).getD j0.toNat 0)) (fun w' => RdT (tyI .u8) w' (.slice da dn dc) ((xs.set a (xs.getD p 0)).set p (xs.getD a 0))) rfl rfl rfl rfl rfl (H9.rdT 0 rfl) (.inl ⟨rfl, fun _ hC => t_load1 j0.toNat 0 (T := (tyI .u8)) rfl Try.underlying5 rfl rfl hC (by first | omega | (simp only [List.length_set]; omega)) rfl ⟨rfl, rfl⟩⟩) ?_
      refine WD.take hok3 8 (.slice da dn dc) (fun _ => True) rfl rfl rfl rfl rfl trivial (.inl ⟨rfl, fun _ _ => d_move rfl ⟨rfl, rfl⟩⟩) ?_
      refine WD.take hok3 9 (.int .i64 ((a : Nat) : Int)) (fun _ => True) rfl rfl rfl rfl rfl trivial (.inl ⟨rfl, fun _ _ => d_move rfl ⟨rfl, rfl⟩⟩) ?_
      refine WD.take hok3 10 (elemPtr (.slice da dn dc) a) (fun w' => RdT (tyI .u8) w' (.slice da dn dc) ((xs.set a (xs.getD p 0)).set p (xs.getD a 0))) rfl rfl rfl rfl rfl (H9.rdT 0 rfl) (.inl ⟨rfl, fun _ hC => t_addr1 a (T := (tyI .u8)) rfl Try.underlying85 sz5 rfl rfl hC rfl (by first | omega | (simp only [List.length_set]; omega)) ⟨rfl, rfl⟩⟩) ?_
      refine WD.take hok3 11 (.int .u8 (((xs.set a (xs.getD p 0)).set p (xs.getD a 0)).getD a 0)) (fun w' => RdT (tyI .u8) w' (.slice da dn dc) ((xs.set a (xs.getD p 0)).set p (xs.getD a 0))) rfl rfl rfl rfl rfl (H9.rdT 0 rfl) (.inl ⟨rfl, fun _ hC => t_load1 a 0 (T := (tyI .u8)) rfl Try.underlying5 rfl rfl hC (by first | omega | (simp only [List.length_set]; omega)) rfl ⟨rfl, rfl⟩⟩) ?_
      refine WD.loud hok3 12 rfl (⟨_, [], rfl, rfl, rfl, rfl, rfl, rfl, d_call ok124 rfl (Ret.calls (less8_any (((xs.set a (xs.getD p 0)).set p (xs.getD a 0)).getD j0.toNat 0) (((xs.set a (xs.getD p 0)).set p (xs.getD a 0)).getD a 0) w9  ) fun _ w10 p2 => ?_)⟩)
      obtain ⟨rfl, u4⟩ := p2
      have H10 : UpG w [rowT (tyI .u8) (.slice da dn dc) 5 xs] w10 [[rowT (tyI .u8) (.slice da dn dc) 5 ((xs.set a (xs.getD p 0)).set p (xs.getD a 0))]] := H9.call u4
      refine ⟨trivial, ?_⟩
      refine WD.take hok3 13 (.bool (decide (¬ ((((xs.set a (xs.getD p 0)).set p (xs.getD a 0)).getD j0.toNat 0) < (((xs.set a (xs.getD p 0)).set p (xs.getD a 0)).getD a 0))))) (fun _ => True) rfl rfl rfl rfl rfl trivial (.inl ⟨rfl, fun _ _ => d_not (p := (((xs.set a (xs.getD p 0)).set p (xs.getD a 0)).getD j0.toNat 0) < (((xs.set a (xs.getD p 0)).set p (xs.getD a 0)).getD a 0)) rfl ⟨rfl, rfl⟩⟩) ?_
      refine WD.take hok3 14 (.bool (decide (¬ ((((xs.set a (xs.getD p 0)).set p (xs.getD a 0)).getD j0.toNat 0) < (((xs.set a (xs.getD p 0)).set p (xs.getD a 0)).getD a 0))))) (fun _ => True) rfl rfl rfl rfl rfl trivial (.inl ⟨rfl, fun _ _ => d_pick rfl rfl ⟨rfl, rfl⟩⟩) ?_
      refine WD.done hok3 rfl (X.then_code ?_)
      refine W.ite (p := ¬ ((((xs.set a (xs.getD p 0)).set p (xs.getD a 0)).getD j0.toNat 0) < (((xs.set a (xs.getD p 0)).set p (xs.getD a 0)).getD a 0))) rfl (fun c144 => ?_) (fun c144 => ?_)
      · skip
        refine W.skip (X.then_code ?_)
        refine W.block ?_
        refine W.region ?_
        refine WL.op rfl (d_move rfl ?_)
        refine WL.op rfl (d_sub rfl rfl (by omega) (by omega) ?_)
        refine WL.op rfl (d_assign rfl ?_)
        refine WL.done (X.block_normal ?_)
        exact X.next [11, 10, 9, 8, 0, 1] (Γ' := [(11, .int .i64 (j0 - 1)), (10, .int .i64 ((i : Nat) : Int)), (9, .bool false), (8, .int .i64 0), (0, .slice da dn dc), (1, .int .i64 ((a : Nat) : Int))]) rfl (((j0 - 1) + 1).toNat) (by omega) ⟨j0 - 1, rfl, H10, (by omega), (by rw [hd]; exact sd_go (xs := (sw xs a p)) (by omega) (by omega) (by simpa [pD, lt_iff, sw] using c144)), rfl⟩
      · skip
        refine W.exit (X.then_exit (X.then_exit (X.block_exit ?_)))
        exact X.cut [11, 10, 9, 8, 0, 1] (Γ' := [(11, .int .i64 j0), (10, .int .i64 ((i : Nat) : Int)), (9, .bool false), (8, .int .i64 0), (0, .slice da dn dc), (1, .int .i64 ((a : Nat) : Int))]) rfl ⟨j0, rfl, H10, (by omega), (by exact hd.trans (sd_end (xs := (sw xs a p)) (by omega) (fun h => by first | exact absurd h.1 (by omega) | exact absurd h.2 (by simpa [pD, lt_iff, sw] using c144))))⟩
    · skip
      refine WD.take hok3 4 undef (fun _ => True) rfl rfl rfl rfl rfl trivial (.inr ⟨rfl, rfl⟩) ?_
      refine WD.take hok3 5 undef (fun _ => True) rfl rfl rfl rfl rfl trivial (.inr ⟨rfl, rfl⟩) ?_
      refine WD.take hok3 6 undef (fun _ => True) rfl rfl rfl rfl rfl trivial (.inr ⟨rfl, rfl⟩) ?_
      refine WD.take hok3 7 undef (fun _ => True) rfl rfl rfl rfl rfl trivial (.inr ⟨rfl, rfl⟩) ?_
      refine WD.take hok3 8 undef (fun _ => True) rfl rfl rfl rfl rfl trivial (.inr ⟨rfl, rfl⟩) ?_
      refine WD.take hok3 9 undef (fun _ => True) rfl rfl rfl rfl rfl trivial (.inr ⟨rfl, rfl⟩) ?_
      refine WD.take hok3 10 undef (fun _ => True) rfl rfl rfl rfl rfl trivial (.inr ⟨rfl, rfl⟩) ?_
      refine WD.take hok3 11 undef (fun _ => True) rfl rfl rfl rfl rfl trivial (.inr ⟨rfl, rfl⟩) ?_
      refine WD.take hok3 12 undef (fun _ => True) rfl rfl rfl rfl rfl trivial (.inr ⟨rfl, rfl⟩) ?_
      refine WD.take hok3 13 undef (fun _ => True) rfl rfl rfl rfl rfl trivial (.inr ⟨rfl, rfl⟩) ?_
      refine WD.take hok3 14 (.bool false) (fun _ => True) rfl rfl rfl rfl rfl trivial (.inl ⟨rfl, fun _ _ => d_pick rfl rfl ⟨rfl, rfl⟩⟩) ?_
      refine WD.done hok3 rfl (X.then_code ?_)
      refine W.iff rfl ?_
      refine W.exit (X.then_exit (X.then_exit (X.block_exit ?_)))
      exact X.cut [11, 10, 9, 8, 0, 1] (Γ' := [(11, .int .i64 j0), (10, .int .i64 ((i : Nat) : Int)), (9, .bool false), (8, .int .i64 0), (0, .slice da dn dc), (1, .int .i64 ((a : Nat) : Int))]) rfl ⟨j0, rfl, H9, (by omega), (by exact hd.trans (sd_end (xs := (sw xs a p)) (by omega) (fun h => by first | exact absurd h.1 (by omega) | exact absurd h.2 (by simpa [pD, lt_iff, sw] using c144))))⟩
  rintro Γ4 w11 ⟨j, rfl, H11, hj, hDn⟩
  refine W.seq ?_
  refine W.seq ?_
  refine W.region ?_
  refine WL.op rfl (d_move rfl ?_)
  refine WL.op rfl (d_move rfl ?_)
  refine WL.op rfl (d_cmp (decide (((i : Nat) : Int) > j)) rfl rfl rfl ?_)
  refine WL.done (X.then_code ?_)
  refine W.ite (p := ((i : Nat) : Int) > j) rfl (fun c147 => ?_) (fun c147 => ?_)
  · skip
    refine W.seq ?_
    refine W.regionD mixed (by kernel_rfl) fun hok4 w12 k4 => ?_
    have H12 : UpG w [rowT (tyI .u8) (.slice da dn dc) 5 xs] w12 [[rowT (tyI .u8) (.slice da dn dc) 5 ((xs.set a (xs.getD p 0)).set p (xs.getD a 0))]] := H11.kept k4
    refine WD.take hok4 0 (.slice da dn dc) (fun _ => True) rfl rfl rfl rfl rfl trivial (.inl ⟨rfl, fun _ _ => d_move rfl ⟨rfl, rfl⟩⟩) ?_
    refine WD.take hok4 1 (.int .i64 j) (fun _ => True) rfl rfl rfl rfl rfl trivial (.inl ⟨rfl, fun _ _ => d_move rfl ⟨rfl, rfl⟩⟩) ?_
    refine WD.take hok4 2 (.slice da dn dc) (fun _ => True) rfl rfl rfl rfl rfl trivial (.inl ⟨rfl, fun _ _ => d_move rfl ⟨rfl, rfl⟩⟩) ?_
    refine WD.take hok4 3 (.int .i64 ((a : Nat) : Int)) (fun _ => True) rfl rfl rfl rfl rfl trivial (.inl ⟨rfl, fun _ _ => d_move rfl ⟨rfl, rfl⟩⟩) ?_
    refine WD.take hok4 4 (.slice da dn dc) (fun _ => True) rfl rfl rfl rfl rfl trivial (.inl ⟨rfl, fun _ _ => d_move rfl ⟨rfl, rfl⟩⟩) ?_
    refine WD.take hok4 5 (.int .i64 ((a : Nat) : Int)) (fun _ => True) rfl rfl rfl rfl rfl trivial (.inl ⟨rfl, fun _ _ => d_move rfl ⟨rfl, rfl⟩⟩) ?_
    refine WD.take hok4 6 (elemPtr (.slice da dn dc) a) (fun w' => RdT (tyI .u8) w' (.slice da dn dc) ((xs.set a (xs.getD p 0)).set p (xs.getD a 0))) rfl rfl rfl rfl rfl (H12.rdT 0 rfl) (.inl ⟨rfl, fun _ hC => t_addr1 a (T := (tyI .u8)) rfl Try.underlying85 sz5 rfl rfl hC rfl (by first | omega | (simp only [List.length_set]; omega)) ⟨rfl, rfl⟩⟩) ?_
    refine WD.take hok4 7 (.int .u8 (((xs.set a (xs.getD p 0)).set p (xs.getD a 0)).getD a 0)) (fun w' => RdT (tyI .u8) w' (.slice da dn dc) ((xs.set a (xs.getD p 0)).set p (xs.getD a 0))) rfl rfl rfl rfl rfl (H12.rdT 0 rfl) (.inl ⟨rfl, fun _ hC => t_load1 a 0 (T := (tyI .u8)) rfl Try.underlying5 rfl rfl hC (by first | omega | (simp only [List.length_set]; omega)) rfl ⟨rfl, rfl⟩⟩) ?_
    refine WD.take hok4 8 (.slice da dn dc) (fun _ => True) rfl rfl rfl rfl rfl trivial (.inl ⟨rfl, fun _ _ => d_move rfl ⟨rfl, rfl⟩⟩) ?_
    refine WD.take hok4 9 (.int .i64 j) (fun _ => True) rfl rfl rfl rfl rfl trivial (.inl ⟨rfl, fun _ _ => d_move rfl ⟨rfl, rfl⟩⟩) ?_
    refine WD.take hok4 10 (elemPtr (.slice da dn dc) j.toNat) (fun w' => RdT (tyI .u8) w' (.slice da dn dc) ((xs.set a (xs.getD p 0)).set p (xs.getD a 0))) rfl rfl rfl rfl rfl (H12.rdT 0 rfl) (.inl ⟨rfl, fun _ hC => t_addr1 j.toNat (T := (tyI .u8)) rfl Try.underlying85 sz5 rfl rfl hC (by first | omega | (simp only [List.length_set]; omega)) (by first | omega | (simp only [List.length_set]; omega)) ⟨rfl, rfl⟩⟩) ?_
    refine WD.take hok4 11 (.int .u8 (((xs.set a (xs.getD p 0)).set p (xs.getD a 0)).getD j.toNat 0)) (fun w' => RdT (tyI .u8) w' (.slice da dn dc) ((xs.set a (xs.getD p 0)).set p (xs.getD a 0))) rfl rfl rfl rfl rfl (H12.rdT 0 rfl) (.inl ⟨rfl, fun _ hC => t_load1 j.toNat 0 (T := (tyI .u8)) rfl Try.underlying5 rfl rfl hC (by first | omega | (simp only [List.length_set]; omega)) rfl ⟨rfl, rfl⟩⟩) ?_
    refine WD.take hok4 12 (elemPtr (.slice da dn dc) j.toNat) (fun w' => RdT (tyI .u8) w' (.slice da dn dc) ((xs.set a (xs.getD p 0)).set p (xs.getD a 0))) rfl rfl rfl rfl rfl (H12.rdT 0 rfl) (.inl ⟨rfl, fun _ hC => t_addr1 j.toNat (T := (tyI .u8)) rfl Try.underlying85 sz5 rfl rfl hC (by first | omega | (simp only [List.length_set]; omega)) (by first | omega | (simp only [List.length_set]; omega)) ⟨rfl, rfl⟩⟩) ?_
    refine WD.loud hok4 13 rfl (⟨_, [⟨3, .int .i64 ((a : Nat) : Int), (fun _ => True)⟩, ⟨2, .slice da dn dc, (fun _ => True)⟩], rfl, rfl, rfl, rfl, rfl, rfl, t_store1 j.toNat (((xs.set a (xs.getD p 0)).set p (xs.getD a 0)).getD a 0) (T := (tyI .u8)) (e := 5) rfl sz5 rfl rfl rfl (H12.ownT 0 rfl) (by first | omega | (simp only [List.length_set]; omega)) fun w13 u5 => ?_⟩)
    have H13 : UpG w [rowT (tyI .u8) (.slice da dn dc) 5 xs] w13 [[rowT (tyI .u8) (.slice da dn dc) 5 (((xs.set a (xs.getD p 0)).set p (xs.getD a 0)).set j.toNat (((xs.set a (xs.getD p 0)).set p (xs.getD a 0)).getD a 0))]] := H12.on 0 rfl u5
    refine ⟨⟨trivial, trivial, trivial⟩, ?_⟩
    refine WD.take hok4 14 (elemPtr (.slice da dn dc) a) (fun w' => RdT (tyI .u8) w' (.slice da dn dc) (((xs.set a (xs.getD p 0)).set p (xs.getD a 0)).set j.toNat (((xs.set a (xs.getD p 0)).set p (xs.getD a 0)).getD a 0))) rfl rfl rfl rfl rfl (H13.rdT 0 rfl) (.inl ⟨rfl, fun _ hC => t_addr1 a (T := (tyI .u8)) rfl Try.underlying85 sz5 rfl rfl hC rfl (by first | omega | (simp only [List.length_set]; omega)) ⟨rfl, rfl⟩⟩) ?_
    refine WD.loud hok4 15 rfl (⟨_, [], rfl, rfl, rfl, rfl, rfl, rfl, t_store1 a (((xs.set a (xs.getD p 0)).set p (xs.getD a 0)).getD j.toNat 0) (T := (tyI .u8)) (e := 5) rfl sz5 rfl rfl rfl (H13.ownT 0 rfl) (by first | omega | (simp only [List.length_set]; omega)) fun w14 u6 => ?_⟩)
    have H14 : UpG w [rowT (tyI .u8) (.slice da dn dc) 5 xs] w14 [[rowT (tyI .u8) (.slice da dn dc) 5 ((((xs.set a (xs.getD p 0)).set p (xs.getD a 0)).set j.toNat (((xs.set a (xs.getD p 0)).set p (xs.getD a 0)).getD a 0)).set a (((xs.set a (xs.getD p 0)).set p (xs.getD a 0)).getD j.toNat 0))]] := H13.on 0 rfl u6
    refine ⟨trivial, ?_⟩
    refine WD.done hok4 rfl (X.then_code ?_)
    refine W.seq ?_
    refine W.region ?_
    refine WL.op rfl (d_move rfl ?_)
    refine WL.op rfl (d_assign rfl ?_)
    refine WL.op rfl (d_assign rfl ?_)
    refine WL.done (X.then_code ?_)
    refine W.ret (X.then_ret (X.ret2 rfl rfl rfl ?_))
    have e := part_one (by omega) (by omega) hU hDn (by omega)
    rw [e]
    exact ⟨(by rw [Int.toNat_of_nonneg (by omega)]), (Upd.sel H14 (l := [0]) rfl rfl)⟩
  · skip
    refine W.skip (X.then_code ?_)
    refine W.seq ?_
    refine W.regionD mixed (by kernel_rfl) fun hok5 w15 k5 => ?_
    have H15 : UpG w [rowT (tyI .u8) (.slice da dn dc) 5 xs] w15 [[rowT (tyI .u8) (.slice da dn dc) 5 ((xs.set a (xs.getD p 0)).set p (xs.getD a 0))]] := H11.kept k5
    refine WD.take hok5 0 (.slice da dn dc) (fun _ => True) rfl rfl rfl rfl rfl trivial (.inl ⟨rfl, fun _ _ => d_move rfl ⟨rfl, rfl⟩⟩) ?_
    refine WD.take hok5 1 (.int .i64 ((i : Nat) : Int)) (fun _ => True) rfl rfl rfl rfl rfl trivial (.inl ⟨rfl, fun _ _ => d_move rfl ⟨rfl, rfl⟩⟩) ?_
    refine WD.take hok5 2 (.slice da dn dc) (fun _ => True) rfl rfl rfl rfl rfl trivial (.inl ⟨rfl, fun _ _ => d_move rfl ⟨rfl, rfl⟩⟩) ?_
    refine WD.take hok5 3 (.int .i64 j) (fun _ => True) rfl rfl rfl rfl rfl trivial (.inl ⟨rfl, fun _ _ => d_move rfl ⟨rfl, rfl⟩⟩) ?_
    refine WD.take hok5 4 (.slice da dn dc) (fun _ => True) rfl rfl rfl rfl rfl trivial (.inl ⟨rfl, fun _ _ => d_move rfl ⟨rfl, rfl⟩⟩) ?_
    refine WD.take hok5 5 (.int .i64 j) (fun _ => True) rfl rfl rfl rfl rfl trivial (.inl ⟨rfl, fun _ _ => d_move rfl ⟨rfl, rfl⟩⟩) ?_
    refine WD.take hok5 6 (elemPtr (.slice da dn dc) j.toNat) (fun w' => RdT (tyI .u8) w' (.slice da dn dc) ((xs.set a (xs.getD p 0)).set p (xs.getD a 0))) rfl rfl rfl rfl rfl (H15.rdT 0 rfl) (.inl ⟨rfl, fun _ hC => t_addr1 j.toNat (T := (tyI .u8)) rfl Try.underlying85 sz5 rfl rfl hC (by first | omega | (simp only [List.length_set]; omega)) (by first | omega | (simp only [List.length_set]; omega)) ⟨rfl, rfl⟩⟩) ?_
    refine WD.take hok5 7 (.int .u8 (((xs.set a (xs.getD p 0)).set p (xs.getD a 0)).getD j.toNat 0)) (fun w' => RdT (tyI .u8) w' (.slice da dn dc) ((xs.set a (xs.getD p 0)).set p (xs.getD a 0))) rfl rfl rfl rfl rfl (H15.rdT 0 rfl) (.inl ⟨rfl, fun _ hC => t_load1 j.toNat 0 (T := (tyI .u8)) rfl Try.underlying5 rfl rfl hC (by first | omega | (simp only [List.length_set]; omega)) rfl ⟨rfl, rfl⟩⟩) ?_
    refine WD.take hok5 8 (.slice da dn dc) (fun _ => True) rfl rfl rfl rfl rfl trivial (.inl ⟨rfl, fun _ _ => d_move rfl ⟨rfl, rfl⟩⟩) ?_
    refine WD.take hok5 9 (.int .i64 ((i : Nat) : Int)) (fun _ => True) rfl rfl rfl rfl rfl trivial (.inl ⟨rfl, fun _ _ => d_move rfl ⟨rfl, rfl⟩⟩) ?_
    refine WD.take hok5 10 (elemPtr (.slice da dn dc) i) (fun w' => RdT (tyI .u8) w' (.slice da dn dc) ((xs.set a (xs.getD p 0)).set p (xs.getD a 0))) rfl rfl rfl rfl rfl (H15.rdT 0 rfl) (.inl ⟨rfl, fun _ hC => t_addr1 i (T := (tyI .u8)) rfl Try.underlying85 sz5 rfl rfl hC rfl (by first | omega | (simp only [List.length_set]; omega)) ⟨rfl, rfl⟩⟩) ?_
    refine WD.take hok5 11 (.int .u8 (((xs.set a (xs.getD p 0)).set p (xs.getD a 0)).getD i 0)) (fun w' => RdT (tyI .u8) w' (.slice da dn dc) ((xs.set a (xs.getD p 0)).set p (xs.getD a 0))) rfl rfl rfl rfl rfl (H15.rdT 0 rfl) (.inl ⟨rfl, fun _ hC => t_load1 i 0 (T := (tyI .u8)) rfl Try.underlying5 rfl rfl hC (by first | omega | (simp only [List.length_set]; omega)) rfl ⟨rfl, rfl⟩⟩) ?_
    refine WD.take hok5 12 (elemPtr (.slice da dn dc) i) (fun w' => RdT (tyI .u8) w' (.slice da dn dc) ((xs.set a (xs.getD p 0)).set p (xs.getD a 0))) rfl rfl rfl rfl rfl (H15.rdT 0 rfl) (.inl ⟨rfl, fun _ hC => t_addr1 i (T := (tyI .u8)) rfl Try.underlying85 sz5 rfl rfl hC rfl (by first | omega | (simp only [List.length_set]; omega)) ⟨rfl, rfl⟩⟩) ?_
    refine WD.loud hok5 13 rfl (⟨_, [⟨3, .int .i64 j, (fun _ => True)⟩, ⟨2, .slice da dn dc, (fun _ => True)⟩], rfl, rfl, rfl, rfl, rfl, rfl, t_store1 i (((xs.set a (xs.getD p 0)).set p (xs.getD a 0)).getD j.toNat 0) (T := (tyI .u8)) (e := 5) rfl sz5 rfl rfl rfl (H15.ownT 0 rfl) (by first | omega | (simp only [List.length_set]; omega)) fun w16 u7 => ?_⟩)
    have H16 : UpG w [rowT (tyI .u8) (.slice da dn dc) 5 xs] w16 [[rowT (tyI .u8) (.slice da dn dc) 5 (((xs.set a (xs.getD p 0)).set p (xs.getD a 0)).set i (((xs.set a (xs.getD p 0)).set p (xs.getD a 0)).getD j.toNat 0))]] := H15.on 0 rfl u7
    refine ⟨⟨trivial, trivial, trivial⟩, ?_⟩
    refine WD.take hok5 14 (elemPtr (.slice da dn dc) j.toNat) (fun w' => RdT (tyI .u8) w' (.slice da dn dc) (((xs.set a (xs.getD p 0)).set p (xs.getD a 0)).set i (((xs.set a (xs.getD p 0)).set p (xs.getD a 0)).getD j.toNat 0))) rfl rfl rfl rfl rfl (H16.rdT 0 rfl) (.inl ⟨rfl, fun _ hC => t_addr1 j.toNat (T := (tyI .u8)) rfl Try.underlying85 sz5 rfl rfl hC (by first | omega | (simp only [List.length_set]; omega)) (by first | omega | (simp only [List.length_set]; omega)) ⟨rfl, rfl⟩⟩) ?_
    refine WD.loud hok5 15 rfl (⟨_, [], rfl, rfl, rfl, rfl, rfl, rfl, t_store1 j.toNat (((xs.set a (xs.getD p 0)).set p (xs.getD a 0)).getD i 0) (T := (tyI .u8)) (e := 5) rfl sz5 rfl rfl rfl (H16.ownT 0 rfl) (by first | omega | (simp only [List.length_set]; omega)) fun w17 u8 => ?_⟩)
    have H17 : UpG w [rowT (tyI .u8) (.slice da dn dc) 5 xs] w17 [[rowT (tyI .u8) (.slice da dn dc) 5 ((((xs.set a (xs.getD p 0)).set p (xs.getD a 0)).set i (((xs.set a (xs.getD p 0)).set p (xs.getD a 0)).getD j.toNat 0)).set j.toNat (((xs.set a (xs.getD p 0)).set p (xs.getD a 0)).getD i 0))]] := H16.on 0 rfl u8
    refine ⟨trivial, ?_⟩
    refine WD.done hok5 rfl (X.then_code ?_)
    refine W.seq ?_
    refine W.region ?_
    refine WL.op rfl (d_move rfl ?_)
    refine WL.op rfl (d_add rfl rfl (by omega) (by omega) ?_)
    refine WL.op rfl (d_assign rfl ?_)
    refine WL.done (X.then_code ?_)
    refine W.seq ?_
    refine W.region ?_
    refine WL.op rfl (d_move rfl ?_)
    refine WL.op rfl (d_sub rfl rfl (by omega) (by omega) ?_)
    refine WL.op rfl (d_assign rfl ?_)
    refine WL.done (X.then_code ?_)
    refine W.seq ?_
    refine W.block ?_
    refine W.pick [11, 10, 9, 8, 0, 1] (Γ' := [(11, .int .i64 (j - 1)), (10, .int .i64 (((i : Nat) : Int) + 1)), (9, .bool false), (8, .int .i64 0), (0, .slice da dn dc), (1, .int .i64 ((a : Nat) : Int))]) rfl ?_
    refine W.loop (fun m Γ' w' => ∃ i3 : Nat, ∃ j3 : Int, ∃ ys : List Int, Γ' = [(11, .int .i64 j3), (10, .int .i64 ((i3 : Nat) : Int)), (9, .bool false), (8, .int .i64 0), (0, .slice da dn dc), (1, .int .i64 ((a : Nat) : Int))] ∧ UpG w [rowT (tyI .u8) (.slice da dn dc) 5 xs] w' [[rowT (tyI .u8) (.slice da dn dc) 5 ys]] ∧ (a + 1 < i3 ∧ ((i3 : Int) ≤ j3 + 2) ∧ j3 < (b : Int) ∧ 0 ≤ j3) ∧ (ys.length = xs.length) ∧ (Go.Sort.partLoop Go.Sort.ltInt a i3 j3.toNat ys.toArray = Go.Sort.partLoop Go.Sort.ltInt a (i + 1) (j - 1).toNat (sw (sw xs a p) i j.toNat).toArray) ∧ m = (j3 + 2 - i3).toNat) (((j - 1) + 2 - (i + 1)).toNat) ⟨i + 1, j - 1, (((xs.set a (xs.getD p 0)).set p (xs.getD a 0)).set i (((xs.set a (xs.getD p 0)).set p (xs.getD a 0)).getD j.toNat 0)).set j.toNat (((xs.set a (xs.getD p 0)).set p (xs.getD a 0)).getD i 0), rfl, H17, (by omega), (by rw [sw_len']; exact hzd2), (by rfl), rfl⟩ ?_
    rintro m3 Γ5 w18 ⟨i3, j3, ys, rfl, H18, hij, hzys, hI, rfl⟩
    have hya : a < ys.length := by omega
    refine W.block ?_
    refine W.cut (fun Γ' w' => ∃ i4 : Nat, Γ' = [(11, .int .i64 j3), (10, .int .i64 ((i4 : Nat) : Int)), (9, .bool false), (8, .int .i64 0), (0, .slice da dn dc), (1, .int .i64 ((a : Nat) : Int))] ∧ UpG w [rowT (tyI .u8) (.slice da dn dc) 5 xs] w' [[rowT (tyI .u8) (.slice da dn dc) 5 ys]] ∧ (i3 ≤ i4 ∧ ((i4 : Int) ≤ j3 + 1 ∨ i4 = i3)) ∧ (Go.Sort.scanUp (pU (ys.getD a 0)) ys.toArray j3.toNat i3 = i4)) ?_ ?_
    · skip
      refine W.block ?_
      refine W.pick [11, 10, 9, 8, 0, 1] (Γ' := [(11, .int .i64 j3), (10, .int .i64 ((i3 : Nat) : Int)), (9, .bool false), (8, .int .i64 0), (0, .slice da dn dc), (1, .int .i64 ((a : Nat) : Int))]) rfl ?_
      refine W.loop (fun m Γ' w' => ∃ i7 : Nat, Γ' = [(11, .int .i64 j3), (10, .int .i64 ((i7 : Nat) : Int)), (9, .bool false), (8, .int .i64 0), (0, .slice da dn dc), (1, .int .i64 ((a : Nat) : Int))] ∧ UpG w [rowT (tyI .u8) (.slice da dn dc) 5 xs] w' [[rowT (tyI .u8) (.slice da dn dc) 5 ys]] ∧ (i3 ≤ i7 ∧ ((i7 : Int) ≤ j3 + 1 ∨ i7 = i3)) ∧ (Go.Sort.scanUp (pU (ys.getD a 0)) ys.toArray j3.toNat i3 = Go.Sort.scanUp (pU (ys.getD a 0)) ys.toArray j3.toNat i7) ∧ m = (j3 + 1 - i7).toNat) ((j3 + 1 - i3).toNat) ⟨i3, rfl, H18, (by omega), (by rfl), rfl⟩ ?_
      rintro m4 Γ6 w19 ⟨i7, rfl, H19, hi7, hu2, rfl⟩
      refine W.seq ?_
      refine W.seq ?_
      refine W.regionD mixed (by kernel_rfl) fun hok6 w20 k6 => ?_
      have H20 : UpG w [rowT (tyI .u8) (.slice da dn dc) 5 xs] w20 [[rowT (tyI .u8) (.slice da dn dc) 5 ys]] := H19.kept k6
      refine WD.take hok6 0 (.int .i64 ((i7 : Nat) : Int)) (fun _ => True) rfl rfl rfl rfl rfl trivial (.inl ⟨rfl, fun _ _ => d_move rfl ⟨rfl, rfl⟩⟩) ?_
      refine WD.take hok6 1 (.int .i64 j3) (fun _ => True) rfl rfl rfl rfl rfl trivial (.inl ⟨rfl, fun _ _ => d_move rfl ⟨rfl, rfl⟩⟩) ?_
      refine WD.take hok6 2 (.bool (decide (((i7 : Nat) : Int) ≤ j3))) (fun _ => True) rfl rfl rfl rfl rfl trivial (.inl ⟨rfl, fun _ _ => d_cmp (decide (((i7 : Nat) : Int) ≤ j3)) rfl rfl rfl ⟨rfl, rfl⟩⟩) ?_
      refine WD.take hok6 3 (.bool (decide (((i7 : Nat) : Int) ≤ j3))) (fun _ => True) rfl rfl rfl rfl rfl trivial (.inl ⟨rfl, fun _ _ => d_move rfl ⟨rfl, rfl⟩⟩) ?_
      refine WD.part 102 (p := ((i7 : Nat) : Int) ≤ j3) rfl (fun g156 => ?_) (fun g156 => ?_)
      · skip
        refine WD.take hok6 4 (.slice da dn dc) (fun _ => True) rfl rfl rfl rfl rfl trivial (.inl ⟨rfl, fun _ _ => d_move rfl ⟨rfl, rfl⟩⟩) ?_
        refine WD.take hok6 5 (.int .i64 ((i7 : Nat) : Int)) (fun _ => True) rfl rfl rfl rfl rfl trivial (.inl ⟨rfl, fun _ _ => d_move rfl ⟨rfl, rfl⟩⟩) ?_
        refine WD.take hok6 6 (elemPtr (.slice da dn dc) i7) (fun w' => RdT (tyI .u8) w' (.slice da dn dc) ys) rfl rfl rfl rfl rfl (H20.rdT 0 rfl) (.inl ⟨rfl, fun _ hC => t_addr1 i7 (T := (tyI .u8)) rfl Try.underlying85 sz5 rfl rfl hC rfl (by first | omega | (simp only [List.length_set]; omega)) ⟨rfl, rfl⟩⟩) ?_
        refine WD.take hok6 7 (.int .u8 (ys.getD i7 0)) (fun w' => RdT (tyI .u8) w' (.slice da dn dc) ys) rfl rfl rfl rfl rfl (H20.rdT 0 rfl) (.inl ⟨rfl, fun _ hC => t_load1 i7 0 (T := (tyI .u8)) rfl Try.underlying5 rfl rfl hC (by first | omega | (simp only [List.length_set]; omega)) rfl ⟨rfl, rfl⟩⟩) ?_
        refine WD.take hok6 8 (.slice da dn dc) (fun _ => True) rfl rfl rfl rfl rfl trivial (.inl ⟨rfl, fun _ _ => d_move rfl ⟨rfl, rfl⟩⟩) ?_
        refine WD.take hok6 9 (.int .i64 ((a : Nat) : Int)) (fun _ => True) rfl rfl rfl rfl rfl trivial (.inl ⟨rfl, fun _ _ => d_move rfl ⟨rfl, rfl⟩⟩) ?_
        refine WD.take hok6 10 (elemPtr (.slice da dn dc) a) (fun w' => RdT (tyI .u8) w' (.slice da dn dc) ys) rfl rfl rfl rfl rfl (H20.rdT 0 rfl) (.inl ⟨rfl, fun _ hC => t_addr1 a (T := (tyI .u8)) rfl Try.underlying85 sz5 rfl rfl hC rfl (by first | omega | (simp only [List.length_set]; omega)) ⟨rfl, rfl⟩⟩) ?_
        refine WD.take hok6 11 (.int .u8 (ys.getD a 0)) (fun w' => RdT (tyI .u8) w' (.slice da dn dc) ys) rfl rfl rfl rfl rfl (H20.rdT 0 rfl) (.inl ⟨rfl, fun _ hC => t_load1 a 0 (T := (tyI .u8)) rfl Try.underlying5 rfl rfl hC (by first | omega | (simp only [List.length_set]; omega)) rfl ⟨rfl, rfl⟩⟩) ?_
        refine WD.loud hok6 12 rfl (⟨_, [], rfl, rfl, rfl, rfl, rfl, rfl, d_call ok124 rfl (Ret.calls (less8_any (ys.getD i7 0) (ys.getD a 0) w20  ) fun _ w21 p3 => ?_)⟩)
        obtain ⟨rfl, u9⟩ := p3
        have H21 : UpG w [rowT (tyI .u8) (.slice da dn dc) 5 xs] w21 [[rowT (tyI .u8) (.slice da dn dc) 5 ys]] := H20.call u9
        refine ⟨trivial, ?_⟩
        refine WD.take hok6 13 (.bool (decide ((ys.getD i7 0) < (ys.getD a 0)))) (fun _ => True) rfl rfl rfl rfl rfl trivial (.inl ⟨rfl, fun _ _ => d_pick rfl rfl ⟨rfl, rfl⟩⟩) ?_
        refine WD.done hok6 rfl (X.then_code ?_)
        refine W.ite (p := (ys.getD i7 0) < (ys.getD a 0)) rfl (fun c156 => ?_) (fun c156 => ?_)
        · skip
          refine W.skip (X.then_code ?_)
          refine W.block ?_
          refine W.region ?_
          refine WL.op rfl (d_move rfl ?_)
          refine WL.op rfl (d_add rfl rfl (by omega) (by omega) ?_)
          refine WL.op rfl (d_assign rfl ?_)
          refine WL.done (X.block_normal ?_)
          exact X.next [11, 10, 9, 8, 0, 1] (Γ' := [(11, .int .i64 j3), (10, .int .i64 (((i7 + 1) : Nat) : Int)), (9, .bool false), (8, .int .i64 0), (0, .slice da dn dc), (1, .int .i64 ((a : Nat) : Int))]) rfl ((j3 + 1 - (i7 + 1)).toNat) (by omega) ⟨i7 + 1, rfl, H21, (by omega), (by rw [hu2]; exact su_go (by omega) (by simpa [pU, lt_iff] using c156)), rfl⟩
        · skip
          refine W.exit (X.then_exit (X.then_exit (X.block_exit ?_)))
          exact X.cut [11, 10, 9, 8, 0, 1] (Γ' := [(11, .int .i64 j3), (10, .int .i64 ((i7 : Nat) : Int)), (9, .bool false), (8, .int .i64 0), (0, .slice da dn dc), (1, .int .i64 ((a : Nat) : Int))]) rfl ⟨i7, rfl, H21, (by omega), (by exact hu2.trans (su_end (p := pU (ys.getD a 0)) (fun h => by first | exact absurd h.1 (by omega) | exact absurd h.2 (by simpa [pU, pD, qU, qD, lt_iff] using c156))))⟩
      · skip
        refine WD.take hok6 4 undef (fun _ => True) rfl rfl rfl rfl rfl trivial (.inr ⟨rfl, rfl⟩) ?_
        refine WD.take hok6 5 undef (fun _ => True) rfl rfl rfl rfl rfl trivial (.inr ⟨rfl, rfl⟩) ?_
        refine WD.take hok6 6 undef (fun _ => True) rfl rfl rfl rfl rfl trivial (.inr ⟨rfl, rfl⟩) ?_
        refine WD.take hok6 7 undef (fun _ => True) rfl rfl rfl rfl rfl trivial (.inr ⟨rfl, rfl⟩) ?_
        refine WD.take hok6 8 undef (fun _ => True) rfl rfl rfl rfl rfl trivial (.inr ⟨rfl, rfl⟩) ?_
        refine WD.take hok6 9 undef (fun _ => True) rfl rfl rfl rfl rfl trivial (.inr ⟨rfl, rfl⟩) ?_
        refine WD.take hok6 10 undef (fun _ => True) rfl rfl rfl rfl rfl trivial (.inr ⟨rfl, rfl⟩) ?_
        refine WD.take hok6 11 undef (fun _ => True) rfl rfl rfl rfl rfl trivial (.inr ⟨rfl, rfl⟩) ?_
        refine WD.take hok6 12 undef (fun _ => True) rfl rfl rfl rfl rfl trivial (.inr ⟨rfl, rfl⟩) ?_
        refine WD.take hok6 13 (.bool false) (fun _ => True) rfl rfl rfl rfl rfl trivial (.inl ⟨rfl, fun _ _ => d_pick rfl rfl ⟨rfl, rfl⟩⟩) ?_
        refine WD.done hok6 rfl (X.then_code ?_)
        refine W.iff rfl ?_
        refine W.exit (X.then_exit (X.then_exit (X.block_exit ?_)))
        exact X.cut [11, 10, 9, 8, 0, 1] (Γ' := [(11, .int .i64 j3), (10, .int .i64 ((i7 : Nat) : Int)), (9, .bool false), (8, .int .i64 0), (0, .slice da dn dc), (1, .int .i64 ((a : Nat) : Int))]) rfl ⟨i7, rfl, H20, (by omega), (by exact hu2.trans (su_end (p := pU (ys.getD a 0)) (fun h => by first | exact absurd h.1 (by omega) | exact absurd h.2 (by simpa [pU, pD, qU, qD, lt_iff] using c156))))⟩
    rintro Γ7 w22 ⟨i4, rfl, H22, hi4, hU2⟩
    refine W.cut (fun Γ' w' => ∃ j4 : Int, Γ' = [(11, .int .i64 j4), (10, .int .i64 ((i4 : Nat) : Int)), (9, .bool false), (8, .int .i64 0), (0, .slice da dn dc), (1, .int .i64 ((a : Nat) : Int))] ∧ UpG w [rowT (tyI .u8) (.slice da dn dc) 5 xs] w' [[rowT (tyI .u8) (.slice da dn dc) 5 ys]] ∧ (((i4 : Int) ≤ j4 + 1 ∨ j4 = j3) ∧ j4 ≤ j3) ∧ (Go.Sort.scanDown (pD (ys.getD a 0)) ys.toArray i4 j3.toNat = j4.toNat)) ?_ ?_
    · skip
      refine W.block ?_
      refine W.pick [11, 10, 9, 8, 0, 1] (Γ' := [(11, .int .i64 j3), (10, .int .i64 ((i4 : Nat) : Int)), (9, .bool false), (8, .int .i64 0), (0, .slice da dn dc), (1, .int .i64 ((a : Nat) : Int))]) rfl ?_
      refine W.loop (fun m Γ' w' => ∃ j7 : Int, Γ' = [(11, .int .i64 j7), (10, .int .i64 ((i4 : Nat) : Int)), (9, .bool false), (8, .int .i64 0), (0, .slice da dn dc), (1, .int .i64 ((a : Nat) : Int))] ∧ UpG w [rowT (tyI .u8) (.slice da dn dc) 5 xs] w' [[rowT (tyI .u8) (.slice da dn dc) 5 ys]] ∧ (((i4 : Int) ≤ j7 + 1 ∨ j7 = j3) ∧ j7 ≤ j3) ∧ (Go.Sort.scanDown (pD (ys.getD a 0)) ys.toArray i4 j3.toNat = Go.Sort.scanDown (pD (ys.getD a 0)) ys.toArray i4 j7.toNat) ∧ m = (j7 + 1).toNat) ((j3 + 1).toNat) ⟨j3, rfl, H22, (by omega), (by rfl), rfl⟩ ?_
      rintro m5 Γ8 w23 ⟨j7, rfl, H23, hj7, hD2, rfl⟩
      refine W.seq ?_
      refine W.seq ?_
      refine W.regionD mixed (by kernel_rfl) fun hok7 w24 k7 => ?_
      have H24 : UpG w [rowT (tyI .u8) (.slice da dn dc) 5 xs] w24 [[rowT (tyI .u8) (.slice da dn dc) 5 ys]] := H23.kept k7
      refine WD.take hok7 0 (.int .i64 ((i4 : Nat) : Int)) (fun _ => True) rfl rfl rfl rfl rfl trivial (.inl ⟨rfl, fun _ _ => d_move rfl ⟨rfl, rfl⟩⟩) ?_
      refine WD.take hok7 1 (.int .i64 j7) (fun _ => True) rfl rfl rfl rfl rfl trivial (.inl ⟨rfl, fun _ _ => d_move rfl ⟨rfl, rfl⟩⟩) ?_
      refine WD.take hok7 2 (.bool (decide (((i4 : Nat) : Int) ≤ j7))) (fun _ => True) rfl rfl rfl rfl rfl trivial (.inl ⟨rfl, fun _ _ => d_cmp (decide (((i4 : Nat) : Int) ≤ j7)) rfl rfl rfl ⟨rfl, rfl⟩⟩) ?_
      refine WD.take hok7 3 (.bool (decide (((i4 : Nat) : Int) ≤ j7))) (fun _ => True) rfl rfl rfl rfl rfl trivial (.inl ⟨rfl, fun _ _ => d_move rfl ⟨rfl, rfl⟩⟩) ?_
      refine WD.part 118 (p := ((i4 : Nat) : Int) ≤ j7) rfl (fun g159 => ?_) (fun g159 => ?_)
      · skip
        refine WD.take hok7 4 (.slice da dn dc) (fun _ => True) rfl rfl rfl rfl rfl trivial (.inl ⟨rfl, fun _ _ => d_move rfl ⟨rfl, rfl⟩⟩) ?_
        refine WD.take hok7 5 (.int .i64 j7) (fun _ => True) rfl rfl rfl rfl rfl trivial (.inl ⟨rfl, fun _ _ => d_move rfl ⟨rfl, rfl⟩⟩) ?_
        refine WD.take hok7 6 (elemPtr (.slice da dn dc) j7.toNat) (fun w' => RdT (tyI .u8) w' (.slice da dn dc) ys) rfl rfl rfl rfl rfl (H24.rdT 0 rfl) (.inl ⟨rfl, fun _ hC => t_addr1 j7.toNat (T := (tyI .u8)) rfl Try.underlying85 sz5 rfl rfl hC (by first | omega | (simp only [List.length_set]; omega)) (by first | omega | (simp only [List.length_set]; omega)) ⟨rfl, rfl⟩⟩) ?_
        refine WD.take hok7 7 (.int .u8 (ys.getD j7.toNat 0)) (fun w' => RdT (tyI .u8) w' (.slice da dn dc) ys) rfl rfl rfl rfl rfl (H24.rdT 0 rfl) (.inl ⟨rfl, fun _ hC => t_load1 j7.toNat 0 (T := (tyI .u8)) rfl Try.underlying5 rfl rfl hC (by first | omega | (simp only [List.length_set]; omega)) rfl ⟨rfl, rfl⟩⟩) ?_
        refine WD.take hok7 8 (.slice da dn dc) (fun _ => True) rfl rfl rfl rfl rfl trivial (.inl ⟨rfl, fun _ _ => d_move rfl ⟨rfl, rfl⟩⟩) ?_
        refine WD.take hok7 9 (.int .i64 ((a : Nat) : Int)) (fun _ => True) rfl rfl rfl rfl rfl trivial (.inl ⟨rfl, fun _ _ => d_move rfl ⟨rfl, rfl⟩⟩) ?_
        refine WD.take hok7 10 (elemPtr (.slice da dn dc) a) (fun w' => RdT (tyI .u8) w' (.slice da dn dc) ys) rfl rfl rfl rfl rfl (H24.rdT 0 rfl) (.inl ⟨rfl, fun _ hC => t_addr1 a (T := (tyI .u8)) rfl Try.underlying85 sz5 rfl rfl hC rfl (by first | omega | (simp only [List.length_set]; omega)) ⟨rfl, rfl⟩⟩) ?_
        refine WD.take hok7 11 (.int .u8 (ys.getD a 0)) (fun w' => RdT (tyI .u8) w' (.slice da dn dc) ys) rfl rfl rfl rfl rfl (H24.rdT 0 rfl) (.inl ⟨rfl, fun _ hC => t_load1 a 0 (T := (tyI .u8)) rfl Try.underlying5 rfl rfl hC (by first | omega | (simp only [List.length_set]; omega)) rfl ⟨rfl, rfl⟩⟩) ?_
        refine WD.loud hok7 12 rfl (⟨_, [], rfl, rfl, rfl, rfl, rfl, rfl, d_call ok124 rfl (Ret.calls (less8_any (ys.getD j7.toNat 0) (ys.getD a 0) w24  ) fun _ w25 p4 => ?_)⟩)
        obtain ⟨rfl, u10⟩ := p4
        have H25 : UpG w [rowT (tyI .u8) (.slice da dn dc) 5 xs] w25 [[rowT (tyI .u8) (.slice da dn dc) 5 ys]] := H24.call u10
        refine ⟨trivial, ?_⟩
        refine WD.take hok7 13 (.bool (decide (¬ ((ys.getD j7.toNat 0) < (ys.getD a 0))))) (fun _ => True) rfl rfl rfl rfl rfl trivial (.inl ⟨rfl, fun _ _ => d_not (p := (ys.getD j7.toNat 0) < (ys.getD a 0)) rfl ⟨rfl, rfl⟩⟩) ?_
        refine WD.take hok7 14 (.bool (decide (¬ ((ys.getD j7.toNat 0) < (ys.getD a 0))))) (fun _ => True) rfl rfl rfl rfl rfl trivial (.inl ⟨rfl, fun _ _ => d_pick rfl rfl ⟨rfl, rfl⟩⟩) ?_
        refine WD.done hok7 rfl (X.then_code ?_)
        refine W.ite (p := ¬ ((ys.getD j7.toNat 0) < (ys.getD a 0))) rfl (fun c159 => ?_) (fun c159 => ?_)
        · skip
          refine W.skip (X.then_code ?_)
          refine W.block ?_
          refine W.region ?_
          refine WL.op rfl (d_move rfl ?_)
          refine WL.op rfl (d_sub rfl rfl (by omega) (by omega) ?_)
          refine WL.op rfl (d_assign rfl ?_)
          refine WL.done (X.block_normal ?_)
          exact X.next [11, 10, 9, 8, 0, 1] (Γ' := [(11, .int .i64 (j7 - 1)), (10, .int .i64 ((i4 : Nat) : Int)), (9, .bool false), (8, .int .i64 0), (0, .slice da dn dc), (1, .int .i64 ((a : Nat) : Int))]) rfl (((j7 - 1) + 1).toNat) (by omega) ⟨j7 - 1, rfl, H25, (by omega), (by rw [hD2]; exact sd_go (by omega) (by omega) (by simpa [pD, lt_iff] using c159)), rfl⟩
        · skip
          refine W.exit (X.then_exit (X.then_exit (X.block_exit ?_)))
          exact X.cut [11, 10, 9, 8, 0, 1] (Γ' := [(11, .int .i64 j7), (10, .int .i64 ((i4 : Nat) : Int)), (9, .bool false), (8, .int .i64 0), (0, .slice da dn dc), (1, .int .i64 ((a : Nat) : Int))]) rfl ⟨j7, rfl, H25, (by omega), (by exact hD2.trans (sd_end (p := pD (ys.getD a 0)) (by omega) (fun h => by first | exact absurd h.1 (by omega) | exact absurd h.2 (by simpa [pU, pD, qU, qD, lt_iff] using c159))))⟩
      · skip
        refine WD.take hok7 4 undef (fun _ => True) rfl rfl rfl rfl rfl trivial (.inr ⟨rfl, rfl⟩) ?_
        refine WD.take hok7 5 undef (fun _ => True) rfl rfl rfl rfl rfl trivial (.inr ⟨rfl, rfl⟩) ?_
        refine WD.take hok7 6 undef (fun _ => True) rfl rfl rfl rfl rfl trivial (.inr ⟨rfl, rfl⟩) ?_
        refine WD.take hok7 7 undef (fun _ => True) rfl rfl rfl rfl rfl trivial (.inr ⟨rfl, rfl⟩) ?_
        refine WD.take hok7 8 undef (fun _ => True) rfl rfl rfl rfl rfl trivial (.inr ⟨rfl, rfl⟩) ?_
        refine WD.take hok7 9 undef (fun _ => True) rfl rfl rfl rfl rfl trivial (.inr ⟨rfl, rfl⟩) ?_
        refine WD.take hok7 10 undef (fun _ => True) rfl rfl rfl rfl rfl trivial (.inr ⟨rfl, rfl⟩) ?_
        refine WD.take hok7 11 undef (fun _ => True) rfl rfl rfl rfl rfl trivial (.inr ⟨rfl, rfl⟩) ?_
        refine WD.take hok7 12 undef (fun _ => True) rfl rfl rfl rfl rfl trivial (.inr ⟨rfl, rfl⟩) ?_
        refine WD.take hok7 13 undef (fun _ => True) rfl rfl rfl rfl rfl trivial (.inr ⟨rfl, rfl⟩) ?_
        refine WD.take hok7 14 (.bool false) (fun _ => True) rfl rfl rfl rfl rfl trivial (.inl ⟨rfl, fun _ _ => d_pick rfl rfl ⟨rfl, rfl⟩⟩) ?_
        refine WD.done hok7 rfl (X.then_code ?_)
        refine W.iff rfl ?_
        refine W.exit (X.then_exit (X.then_exit (X.block_exit ?_)))
        exact X.cut [11, 10, 9, 8, 0, 1] (Γ' := [(11, .int .i64 j7), (10, .int .i64 ((i4 : Nat) : Int)), (9, .bool false), (8, .int .i64 0), (0, .slice da dn dc), (1, .int .i64 ((a : Nat) : Int))]) rfl ⟨j7, rfl, H24, (by omega), (by exact hD2.trans (sd_end (p := pD (ys.getD a 0)) (by omega) (fun h => by first | exact absurd h.1 (by omega) | exact absurd h.2 (by simpa [pU, pD, qU, qD, lt_iff] using c159))))⟩
    rintro Γ9 w26 ⟨j4, rfl, H26, hj4, hDn2⟩
    refine W.seq ?_
    refine W.seq ?_
    refine W.region ?_
    refine WL.op rfl (d_move rfl ?_)
    refine WL.op rfl (d_move rfl ?_)
    refine WL.op rfl (d_cmp (decide (((i4 : Nat) : Int) > j4)) rfl rfl rfl ?_)
    refine WL.done (X.then_code ?_)
    refine W.ite (p := ((i4 : Nat) : Int) > j4) rfl (fun c162 => ?_) (fun c162 => ?_)
    · skip
      refine W.exit (X.then_exit (X.block_exit' rfl (X.then_exit (X.block_exit (X.then_code ?_)))))
      refine W.seq ?_
      refine W.regionD mixed (by kernel_rfl) fun hok8 w27 k8 => ?_
      have H27 : UpG w [rowT (tyI .u8) (.slice da dn dc) 5 xs] w27 [[rowT (tyI .u8) (.slice da dn dc) 5 ys]] := H26.kept k8
      refine WD.take hok8 0 (.slice da dn dc) (fun _ => True) rfl rfl rfl rfl rfl trivial (.inl ⟨rfl, fun _ _ => d_move rfl ⟨rfl, rfl⟩⟩) ?_
      refine WD.take hok8 1 (.int .i64 j4) (fun _ => True) rfl rfl rfl rfl rfl trivial (.inl ⟨rfl, fun _ _ => d_move rfl ⟨rfl, rfl⟩⟩) ?_
      refine WD.take hok8 2 (.slice da dn dc) (fun _ => True) rfl rfl rfl rfl rfl trivial (.inl ⟨rfl, fun _ _ => d_move rfl ⟨rfl, rfl⟩⟩) ?_
      refine WD.take hok8 3 (.int .i64 ((a : Nat) : Int)) (fun _ => True) rfl rfl rfl rfl rfl trivial (.inl ⟨rfl, fun _ _ => d_move rfl ⟨rfl, rfl⟩⟩) ?_
      refine WD.take hok8 4 (.slice da dn dc) (fun _ => True) rfl rfl rfl rfl rfl trivial (.inl ⟨rfl, fun _ _ => d_move rfl ⟨rfl, rfl⟩⟩) ?_
      refine WD.take hok8 5 (.int .i64 ((a : Nat) : Int)) (fun _ => True) rfl rfl rfl rfl rfl trivial (.inl ⟨rfl, fun _ _ => d_move rfl ⟨rfl, rfl⟩⟩) ?_
      refine WD.take hok8 6 (elemPtr (.slice da dn dc) a) (fun w' => RdT (tyI .u8) w' (.slice da dn dc) ys) rfl rfl rfl rfl rfl (H27.rdT 0 rfl) (.inl ⟨rfl, fun _ hC => t_addr1 a (T := (tyI .u8)) rfl Try.underlying85 sz5 rfl rfl hC rfl (by first | omega | (simp only [List.length_set]; omega)) ⟨rfl, rfl⟩⟩) ?_
      refine WD.take hok8 7 (.int .u8 (ys.getD a 0)) (fun w' => RdT (tyI .u8) w' (.slice da dn dc) ys) rfl rfl rfl rfl rfl (H27.rdT 0 rfl) (.inl ⟨rfl, fun _ hC => t_load1 a 0 (T := (tyI .u8)) rfl Try.underlying5 rfl rfl hC (by first | omega | (simp only [List.length_set]; omega)) rfl ⟨rfl, rfl⟩⟩) ?_
      refine WD.take hok8 8 (.slice da dn dc) (fun _ => True) rfl rfl rfl rfl rfl trivial (.inl ⟨rfl, fun _ _ => d_move rfl ⟨rfl, rfl⟩⟩) ?_
      refine WD.take hok8 9 (.int .i64 j4) (fun _ => True) rfl rfl rfl rfl rfl trivial (.inl ⟨rfl, fun _ _ => d_move rfl ⟨rfl, rfl⟩⟩) ?_
      refine WD.take hok8 10 (elemPtr (.slice da dn dc) j4.toNat) (fun w' => RdT (tyI .u8) w' (.slice da dn dc) ys) rfl rfl rfl rfl rfl (H27.rdT 0 rfl) (.inl ⟨rfl, fun _ hC => t_addr1 j4.toNat (T := (tyI .u8)) rfl Try.underlying85 sz5 rfl rfl hC (by first | omega | (simp only [List.length_set]; omega)) (by first | omega | (simp only [List.length_set]; omega)) ⟨rfl, rfl⟩⟩) ?_
      refine WD.take hok8 11 (.int .u8 (ys.getD j4.toNat 0)) (fun w' => RdT (tyI .u8) w' (.slice da dn dc) ys) rfl rfl rfl rfl rfl (H27.rdT 0 rfl) (.inl ⟨rfl, fun _ hC => t_load1 j4.toNat 0 (T := (tyI .u8)) rfl Try.underlying5 rfl rfl hC (by first | omega | (simp only [List.length_set]; omega)) rfl ⟨rfl, rfl⟩⟩) ?_
      refine WD.take hok8 12 (elemPtr (.slice da dn dc) j4.toNat) (fun w' => RdT (tyI .u8) w' (.slice da dn dc) ys) rfl rfl rfl rfl rfl (H27.rdT 0 rfl) (.inl ⟨rfl, fun _ hC => t_addr1 j4.toNat (T := (tyI .u8)) rfl Try.underlying85 sz5 rfl rfl hC (by first | omega | (simp only [List.length_set]; omega)) (by first | omega | (simp only [List.length_set]; omega)) ⟨rfl, rfl⟩⟩) ?_
      refine WD.loud hok8 13 rfl (⟨_, [⟨3, .int .i64 ((a : Nat) : Int), (fun _ => True)⟩, ⟨2, .slice da dn dc, (fun _ => True)⟩], rfl, rfl, rfl, rfl, rfl, rfl, t_store1 j4.toNat (ys.getD a 0) (T := (tyI .u8)) (e := 5) rfl sz5 rfl rfl rfl (H27.ownT 0 rfl) (by first | omega | (simp only [List.length_set]; omega)) fun w28 u11 => ?_⟩)
      have H28 : UpG w [rowT (tyI .u8) (.slice da dn dc) 5 xs] w28 [[rowT (tyI .u8) (.slice da dn dc) 5 (ys.set j4.toNat (ys.getD a 0))]] := H27.on 0 rfl u11
      refine ⟨⟨trivial, trivial, trivial⟩, ?_⟩
      refine WD.take hok8 14 (elemPtr (.slice da dn dc) a) (fun w' => RdT (tyI .u8) w' (.slice da dn dc) (ys.set j4.toNat (ys.getD a 0))) rfl rfl rfl rfl rfl (H28.rdT 0 rfl) (.inl ⟨rfl, fun _ hC => t_addr1 a (T := (tyI .u8)) rfl Try.underlying85 sz5 rfl rfl hC rfl (by first | omega | (simp only [List.length_set]; omega)) ⟨rfl, rfl⟩⟩) ?_
      refine WD.loud hok8 15 rfl (⟨_, [], rfl, rfl, rfl, rfl, rfl, rfl, t_store1 a (ys.getD j4.toNat 0) (T := (tyI .u8)) (e := 5) rfl sz5 rfl rfl rfl (H28.ownT 0 rfl) (by first | omega | (simp only [List.length_set]; omega)) fun w29 u12 => ?_⟩)
      have H29 : UpG w [rowT (tyI .u8) (.slice da dn dc) 5 xs] w29 [[rowT (tyI .u8) (.slice da dn dc) 5 ((ys.set j4.toNat (ys.getD a 0)).set a (ys.getD j4.toNat 0))]] := H28.on 0 rfl u12
      refine ⟨trivial, ?_⟩
      refine WD.done hok8 rfl (X.then_code ?_)
      refine W.seq ?_
      refine W.region ?_
      refine WL.op rfl (d_move rfl ?_)
      refine WL.op rfl (d_assign rfl ?_)
      refine WL.op rfl (d_assign rfl ?_)
      refine WL.done (X.then_code ?_)
      refine W.ret (X.ret2 rfl rfl rfl ?_)
      have e2 := hI.symm.trans (pl_end hU2 hDn2 (by omega) c162)
      have e := part_two (by omega) (by omega) hU hDn (by omega) e2
      rw [e]
      exact ⟨(by rw [Int.toNat_of_nonneg (by omega)]), (Upd.sel H29 (l := [0]) rfl rfl)⟩
    · skip
      refine W.skip (X.then_code ?_)
      refine W.seq ?_
      refine W.regionD mixed (by kernel_rfl) fun hok9 w30 k9 => ?_
      have H30 : UpG w [rowT (tyI .u8) (.slice da dn dc) 5 xs] w30 [[rowT (tyI .u8) (.slice da dn dc) 5 ys]] := H26.kept k9
      refine WD.take hok9 0 (.slice da dn dc) (fun _ => True) rfl rfl rfl rfl rfl trivial (.inl ⟨rfl, fun _ _ => d_move rfl ⟨rfl, rfl⟩⟩) ?_
      refine WD.take hok9 1 (.int .i64 ((i4 : Nat) : Int)) (fun _ => True) rfl rfl rfl rfl rfl trivial (.inl ⟨rfl, fun _ _ => d_move rfl ⟨rfl, rfl⟩⟩) ?_
      refine WD.take hok9 2 (.slice da dn dc) (fun _ => True) rfl rfl rfl rfl rfl trivial (.inl ⟨rfl, fun _ _ => d_move rfl ⟨rfl, rfl⟩⟩) ?_
      refine WD.take hok9 3 (.int .i64 j4) (fun _ => True) rfl rfl rfl rfl rfl trivial (.inl ⟨rfl, fun _ _ => d_move rfl ⟨rfl, rfl⟩⟩) ?_
      refine WD.take hok9 4 (.slice da dn dc) (fun _ => True) rfl rfl rfl rfl rfl trivial (.inl ⟨rfl, fun _ _ => d_move rfl ⟨rfl, rfl⟩⟩) ?_
      refine WD.take hok9 5 (.int .i64 j4) (fun _ => True) rfl rfl rfl rfl rfl trivial (.inl ⟨rfl, fun _ _ => d_move rfl ⟨rfl, rfl⟩⟩) ?_
      refine WD.take hok9 6 (elemPtr (.slice da dn dc) j4.toNat) (fun w' => RdT (tyI .u8) w' (.slice da dn dc) ys) rfl rfl rfl rfl rfl (H30.rdT 0 rfl) (.inl ⟨rfl, fun _ hC => t_addr1 j4.toNat (T := (tyI .u8)) rfl Try.underlying85 sz5 rfl rfl hC (by first | omega | (simp only [List.length_set]; omega)) (by first | omega | (simp only [List.length_set]; omega)) ⟨rfl, rfl⟩⟩) ?_
      refine WD.take hok9 7 (.int .u8 (ys.getD j4.toNat 0)) (fun w' => RdT (tyI .u8) w' (.slice da dn dc) ys) rfl rfl rfl rfl rfl (H30.rdT 0 rfl) (.inl ⟨rfl, fun _ hC => t_load1 j4.toNat 0 (T := (tyI .u8)) rfl Try.underlying5 rfl rfl hC (by first | omega | (simp only [List.length_set]; omega)) rfl ⟨rfl, rfl⟩⟩) ?_
      refine WD.take hok9 8 (.slice da dn dc) (fun _ => True) rfl rfl rfl rfl rfl trivial (.inl ⟨rfl, fun _ _ => d_move rfl ⟨rfl, rfl⟩⟩) ?_
      refine WD.take hok9 9 (.int .i64 ((i4 : Nat) : Int)) (fun _ => True) rfl rfl rfl rfl rfl trivial (.inl ⟨rfl, fun _ _ => d_move rfl ⟨rfl, rfl⟩⟩) ?_
      refine WD.take hok9 10 (elemPtr (.slice da dn dc) i4) (fun w' => RdT (tyI .u8) w' (.slice da dn dc) ys) rfl rfl rfl rfl rfl (H30.rdT 0 rfl) (.inl ⟨rfl, fun _ hC => t_addr1 i4 (T := (tyI .u8)) rfl Try.underlying85 sz5 rfl rfl hC rfl (by first | omega | (simp only [List.length_set]; omega)) ⟨rfl, rfl⟩⟩) ?_
      refine WD.take hok9 11 (.int .u8 (ys.getD i4 0)) (fun w' => RdT (tyI .u8) w' (.slice da dn dc) ys) rfl rfl rfl rfl rfl (H30.rdT 0 rfl) (.inl ⟨rfl, fun _ hC => t_load1 i4 0 (T := (tyI .u8)) rfl Try.underlying5 rfl rfl hC (by first | omega | (simp only [List.length_set]; omega)) rfl ⟨rfl, rfl⟩⟩) ?_
      refine WD.take hok9 12 (elemPtr (.slice da dn dc) i4) (fun w' => RdT (tyI .u8) w' (.slice da dn dc) ys) rfl rfl rfl rfl rfl (H30.rdT 0 rfl) (.inl ⟨rfl, fun _ hC => t_addr1 i4 (T := (tyI .u8)) rfl Try.underlying85 sz5 rfl rfl hC rfl (by first | omega | (simp only [List.length_set]; omega)) ⟨rfl, rfl⟩⟩) ?_
      refine WD.loud hok9 13 rfl (⟨_, [⟨3, .int .i64 j4, (fun _ => True)⟩, ⟨2, .slice da dn dc, (fun _ => True)⟩], rfl, rfl, rfl, rfl, rfl, rfl, t_store1 i4 (ys.getD j4.toNat 0) (T := (tyI .u8)) (e := 5) rfl sz5 rfl rfl rfl (H30.ownT 0 rfl) (by first | omega | (simp only [List.length_set]; omega)) fun w31 u13 => ?_⟩)
      have H31 : UpG w [rowT (tyI .u8) (.slice da dn dc) 5 xs] w31 [[rowT (tyI .u8) (.slice da dn dc) 5 (ys.set i4 (ys.getD j4.toNat 0))]] := H30.on 0 rfl u13
      refine ⟨⟨trivial, trivial, trivial⟩, ?_⟩
      refine WD.take hok9 14 (elemPtr (.slice da dn dc) j4.toNat) (fun w' => RdT (tyI .u8) w' (.slice da dn dc) (ys.set i4 (ys.getD j4.toNat 0))) rfl rfl rfl rfl rfl (H31.rdT 0 rfl) (.inl ⟨rfl, fun _ hC => t_addr1 j4.toNat (T := (tyI .u8)) rfl Try.underlying85 sz5 rfl rfl hC (by first | omega | (simp only [List.length_set]; omega)) (by first | omega | (simp only [List.length_set]; omega)) ⟨rfl, rfl⟩⟩) ?_
      refine WD.loud hok9 15 rfl (⟨_, [], rfl, rfl, rfl, rfl, rfl, rfl, t_store1 j4.toNat (ys.getD i4 0) (T := (tyI .u8)) (e := 5) rfl sz5 rfl rfl rfl (H31.ownT 0 rfl) (by first | omega | (simp only [List.length_set]; omega)) fun w32 u14 => ?_⟩)
      have H32 : UpG w [rowT (tyI .u8) (.slice da dn dc) 5 xs] w32 [[rowT (tyI .u8) (.slice da dn dc) 5 ((ys.set i4 (ys.getD j4.toNat 0)).set j4.toNat (ys.getD i4 0))]] := H31.on 0 rfl u14
      refine ⟨trivial, ?_⟩
      refine WD.done hok9 rfl (X.then_code ?_)
      refine W.seq ?_
      refine W.region ?_
      refine WL.op rfl (d_move rfl ?_)
      refine WL.op rfl (d_add rfl rfl (by omega) (by omega) ?_)
      refine WL.op rfl (d_assign rfl ?_)
      refine WL.done (X.then_code ?_)
      refine W.region ?_
      refine WL.op rfl (d_move rfl ?_)
      refine WL.op rfl (d_sub rfl rfl (by omega) (by omega) ?_)
      refine WL.op rfl (d_assign rfl ?_)
      refine WL.done (X.block_normal ?_)
      exact X.next [11, 10, 9, 8, 0, 1] (Γ' := [(11, .int .i64 (j4 - 1)), (10, .int .i64 (((i4 + 1) : Nat) : Int)), (9, .bool false), (8, .int .i64 0), (0, .slice da dn dc), (1, .int .i64 ((a : Nat) : Int))]) rfl (((j4 - 1) + 2 - (i4 + 1)).toNat) (by omega) ⟨i4 + 1, j4 - 1, (ys.set i4 (ys.getD j4.toNat 0)).set j4.toNat (ys.getD i4 0), rfl, H32, (by omega), (by rw [sw_len']; exact hzys), (by exact (pl_go hU2 hDn2 (by omega) c162).symm.trans hI), rfl⟩

set_option maxHeartbeats 4000000 in
set_option maxRecDepth 20000 in
theorem pins8_any (da : Option Addr) (xs : List Int) (dc : Nat) (dn : Nat) (aI : Int) (a : Nat) (bI : Int) (b : Nat) (w : World) (hp : Hp w [rowT (tyI .u8) (.slice da dn dc) 5 xs]) (e_a : aI = ((a : Nat) : Int)) (e_b : bI = ((b : Nat) : Int)) (hab : a < b ∧ b ≤ xs.length ∧ xs.length ≤ 1000000) :
    Calls Try.prog 123 #[.slice da dn dc, .int .i64 aI, .int .i64 bI] w (Ret fun v w' => v = .bool ((Go.Sort.partialInsertionSort Go.Sort.ltInt xs.toArray a b).2) ∧ Upd w [rowT (tyI .u8) (.slice da dn dc) 5 xs] w' [rowT (tyI .u8) (.slice da dn dc) 5 ((Go.Sort.partialInsertionSort Go.Sort.ltInt xs.toArray a b).1.toList)]) := by
  subst e_a
  subst e_b
  have hn := (hp_rdT hp (List.mem_of_getElem? (i := 0) rfl)).len
  refine calls_of_W (args := [.slice da dn dc, .int .i64 ((a : Nat) : Int), .int .i64 ((b : Nat) : Int)]) Try.func123 rfl rfl rfl ?_
  have H0 : UpG w [rowT (tyI .u8) (.slice da dn dc) 5 xs] w [[rowT (tyI .u8) (.slice da dn dc) 5 xs]] := (UpG.refl hp).re rfl
  show W _ _ _ _ [(0, .slice da dn dc), (1, .int .i64 ((a : Nat) : Int)), (2, .int .i64 ((b : Nat) : Int))] w
  refine W.seq ?_
  refine W.region ?_
  refine WL.op rfl (d_assign rfl ?_)
  refine WL.done (X.then_code ?_)
  refine W.seq ?_
  refine W.region ?_
  refine WL.op rfl (d_move rfl ?_)
  refine WL.op rfl (d_add rfl rfl (by omega) (by omega) ?_)
  refine WL.op rfl (d_assign rfl ?_)
  refine WL.done (X.then_code ?_)
  refine W.seq ?_
  refine W.seq ?_
  refine W.region ?_
  refine WL.op rfl (d_assign rfl ?_)
  refine WL.done (X.then_code ?_)
  refine W.block ?_
  refine W.pick [8, 7, 6, 0, 1, 2] (Γ' := [(8, .int .i64 0), (7, .int .i64 (((a : Nat) : Int) + 1)), (6, .bool false), (0, .slice da dn dc), (1, .int .i64 ((a : Nat) : Int)), (2, .int .i64 ((b : Nat) : Int))]) rfl ?_
  refine W.loop (fun m Γ' w' => ∃ i : Nat, ∃ k : Nat, ∃ ys : List Int, Γ' = [(8, .int .i64 ((k : Nat) : Int)), (7, .int .i64 ((i : Nat) : Int)), (6, .bool false), (0, .slice da dn dc), (1, .int .i64 ((a : Nat) : Int)), (2, .int .i64 ((b : Nat) : Int))] ∧ UpG w [rowT (tyI .u8) (.slice da dn dc) 5 xs] w' [[rowT (tyI .u8) (.slice da dn dc) 5 ys]] ∧ (k ≤ 5) ∧ (a + 1 ≤ i ∧ i ≤ b) ∧ (ys.length = xs.length) ∧ (Go.Sort.partialIns Go.Sort.ltInt a b (5 - k) i ys.toArray = Go.Sort.partialInsertionSort Go.Sort.ltInt xs.toArray a b) ∧ m = 5 - k) (5 - 0) ⟨a + 1, 0, xs, rfl, H0, (by omega), (by omega), (by rfl), (by rfl), rfl⟩ ?_
  rintro m1 Γ1 w1 ⟨i, k, ys, rfl, H1, hk, hi, hzys, hI, rfl⟩
  refine W.seq ?_
  refine W.seq ?_
  refine W.region ?_
  refine WL.op rfl (d_move rfl ?_)
  refine WL.op rfl (d_cmp (decide (((k : Nat) : Int) < (5 : Int))) rfl rfl rfl ?_)
  refine WL.done (X.then_code ?_)
  refine W.ite (p := ((k : Nat) : Int) < (5 : Int)) rfl (fun c203 => ?_) (fun c203 => ?_)
  · skip
    refine W.skip (X.then_code ?_)
    refine W.seq ?_
    refine W.block ?_
    refine W.cut (fun Γ' w' => ∃ i2 : Nat, Γ' = [(8, .int .i64 ((k : Nat) : Int)), (7, .int .i64 ((i2 : Nat) : Int)), (6, .bool false), (0, .slice da dn dc), (1, .int .i64 ((a : Nat) : Int)), (2, .int .i64 ((b : Nat) : Int))] ∧ UpG w [rowT (tyI .u8) (.slice da dn dc) 5 xs] w' [[rowT (tyI .u8) (.slice da dn dc) 5 ys]] ∧ (i ≤ i2 ∧ i2 ≤ b) ∧ (Go.Sort.scanSorted Go.Sort.ltInt ys.toArray b i = i2)) ?_ ?_
    · skip
      refine W.block ?_
      refine W.pick [8, 7, 6, 0, 1, 2] (Γ' := [(8, .int .i64 ((k : Nat) : Int)), (7, .int .i64 ((i : Nat) : Int)), (6, .bool false), (0, .slice da dn dc), (1, .int .i64 ((a : Nat) : Int)), (2, .int .i64 ((b : Nat) : Int))]) rfl ?_
      refine W.loop (fun m Γ' w' => ∃ i1 : Nat, Γ' = [(8, .int .i64 ((k : Nat) : Int)), (7, .int .i64 ((i1 : Nat) : Int)), (6, .bool false), (0, .slice da dn dc), (1, .int .i64 ((a : Nat) : Int)), (2, .int .i64 ((b : Nat) : Int))] ∧ UpG w [rowT (tyI .u8) (.slice da dn dc) 5 xs] w' [[rowT (tyI .u8) (.slice da dn dc) 5 ys]] ∧ (i ≤ i1 ∧ i1 ≤ b) ∧ (Go.Sort.scanSorted Go.Sort.ltInt ys.toArray b i = Go.Sort.scanSorted Go.Sort.ltInt ys.toArray b i1) ∧ m = b - i1) (b - i) ⟨i, rfl, H1, (by omega), (by rfl), rfl⟩ ?_
      rintro m2 Γ2 w2 ⟨i1, rfl, H2, hi1, hs, rfl⟩
      refine W.seq ?_
      refine W.seq ?_
      refine W.regionD mixed (by kernel_rfl) fun hok1 w3 k1 => ?_
      have H3 : UpG w [rowT (tyI .u8) (.slice da dn dc) 5 xs] w3 [[rowT (tyI .u8) (.slice da dn dc) 5 ys]] := H2.kept k1
      refine WD.take hok1 0 (.int .i64 ((i1 : Nat) : Int)) (fun _ => True) rfl rfl rfl rfl rfl trivial (.inl ⟨rfl, fun _ _ => d_move rfl ⟨rfl, rfl⟩⟩) ?_
      refine WD.take hok1 1 (.int .i64 ((b : Nat) : Int)) (fun _ => True) rfl rfl rfl rfl rfl trivial (.inl ⟨rfl, fun _ _ => d_move rfl ⟨rfl, rfl⟩⟩) ?_
      refine WD.take hok1 2 (.bool (decide (((i1 : Nat) : Int) < ((b : Nat) : Int)))) (fun _ => True) rfl rfl rfl rfl rfl trivial (.inl ⟨rfl, fun _ _ => d_cmp (decide (((i1 : Nat) : Int) < ((b : Nat) : Int))) rfl rfl rfl ⟨rfl, rfl⟩⟩) ?_
      refine WD.take hok1 3 (.bool (decide (((i1 : Nat) : Int) < ((b : Nat) : Int)))) (fun _ => True) rfl rfl rfl rfl rfl trivial (.inl ⟨rfl, fun _ _ => d_move rfl ⟨rfl, rfl⟩⟩) ?_
      refine WD.part 20 (p := ((i1 : Nat) : Int) < ((b : Nat) : Int)) rfl (fun g204 => ?_) (fun g204 => ?_)
      · skip
        refine WD.take hok1 4 (.slice da dn dc) (fun _ => True) rfl rfl rfl rfl rfl trivial (.inl ⟨rfl, fun _ _ => d_move rfl ⟨rfl, rfl⟩⟩) ?_
        refine WD.take hok1 5 (.int .i64 ((i1 : Nat) : Int)) (fun _ => True) rfl rfl rfl rfl rfl trivial (.inl ⟨rfl, fun _ _ => d_move rfl ⟨rfl, rfl⟩⟩) ?_
        refine WD.take hok1 6 (elemPtr (.slice da dn dc) i1) (fun w' => RdT (tyI .u8) w' (.slice da dn dc) ys) rfl rfl rfl rfl rfl (H3.rdT 0 rfl) (.inl ⟨rfl, fun _ hC => t_addr1 i1 (T := (tyI .u8)) rfl Try.underlying85 sz5 rfl rfl hC (by first | omega | (simp only [List.length_set]; omega)) (by first | omega | (simp only [List.length_set]; omega)) ⟨rfl, rfl⟩⟩) ?_
        refine WD.take hok1 7 (.int .u8 (ys.getD i1 0)) (fun w' => RdT (tyI .u8) w' (.slice da dn dc) ys) rfl rfl rfl rfl rfl (H3.rdT 0 rfl) (.inl ⟨rfl, fun _ hC => t_load1 i1 0 (T := (tyI .u8)) rfl Try.underlying5 rfl rfl hC (by first | omega | (simp only [List.length_set]; omega)) rfl ⟨rfl, rfl⟩⟩) ?_
        refine WD.take hok1 8 (.slice da dn dc) (fun _ => True) rfl rfl rfl rfl rfl trivial (.inl ⟨rfl, fun _ _ => d_move rfl ⟨rfl, rfl⟩⟩) ?_
        refine WD.take hok1 9 (.int .i64 ((i1 : Nat) : Int)) (fun _ => True) rfl rfl rfl rfl rfl trivial (.inl ⟨rfl, fun _ _ => d_move rfl ⟨rfl, rfl⟩⟩) ?_
        refine WD.take hok1 10 (.int .i64 (((i1 : Nat) : Int) - 1)) (fun _ => True) rfl rfl rfl rfl rfl trivial (.inl ⟨rfl, fun _ _ => d_sub rfl rfl (by omega) (by omega) ⟨rfl, rfl⟩⟩) ?_
        refine WD.take hok1 11 (elemPtr (.slice da dn dc) (i1 - 1)) (fun w' => RdT (tyI .u8) w' (.slice da dn dc) ys) rfl rfl rfl rfl rfl (H3.rdT 0 rfl) (.inl ⟨rfl, fun _ hC => t_addr1 (i1 - 1) (T := (tyI .u8)) rfl Try.underlying85 sz5 rfl rfl hC (by first | omega | (simp only [List.length_set]; omega)) (by first | omega | (simp only [List.length_set]; omega)) ⟨rfl, rfl⟩⟩) ?_
        refine WD.take hok1 12 (.int .u8 (ys.getD (i1 - 1) 0)) (fun w' => RdT (tyI .u8) w' (.slice da dn dc) ys) rfl rfl rfl rfl rfl (H3.rdT 0 rfl) (.inl ⟨rfl, fun _ hC => t_load1 (i1 - 1) 0 (T := (tyI .u8)) rfl Try.underlying5 rfl rfl hC (by first | omega | (simp only [List.length_set]; omega)) rfl ⟨rfl, rfl⟩⟩) ?_
        refine WD.loud hok1 13 rfl (⟨_, [], rfl, rfl, rfl, rfl, rfl, rfl, d_call ok124 rfl (Ret.calls (less8_any (ys.getD i1 0) (ys.getD (i1 - 1) 0) w3  ) fun _ w4 p1 => ?_)⟩)
        obtain ⟨rfl, u1⟩ := p1
        have H4 : UpG w [rowT (tyI .u8) (.slice da dn dc) 5 xs] w4 [[rowT (tyI .u8) (.slice da dn dc) 5 ys]] := H3.call u1
        refine ⟨trivial, ?_⟩
        refine WD.take hok1 14 (.bool (decide (¬ ((ys.getD i1 0) < (ys.getD (i1 - 1) 0))))) (fun _ => True) rfl rfl rfl rfl rfl trivial (.inl ⟨rfl, fun _ _ => d_not (p := (ys.getD i1 0) < (ys.getD (i1 - 1) 0)) rfl ⟨rfl, rfl⟩⟩) ?_
        refine WD.take hok1 15 (.bool (decide (¬ ((ys.getD i1 0) < (ys.getD (i1 - 1) 0))))) (fun _ => True) rfl rfl rfl rfl rfl trivial (.inl ⟨rfl, fun _ _ => d_pick rfl rfl ⟨rfl, rfl⟩⟩) ?_
        refine WD.done hok1 rfl (X.then_code ?_)
        refine W.ite (p := ¬ ((ys.getD i1 0) < (ys.getD (i1 - 1) 0))) rfl (fun c204 => ?_) (fun c204 => ?_)
        · skip
          refine W.skip (X.then_code ?_)
          refine W.block ?_
          refine W.region ?_
          refine WL.op rfl (d_move rfl ?_)
          refine WL.op rfl (d_add rfl rfl (by omega) (by omega) ?_)
          refine WL.op rfl (d_assign rfl ?_)
          refine WL.done (X.block_normal ?_)
          exact X.next [8, 7, 6, 0, 1, 2] (Γ' := [(8, .int .i64 ((k : Nat) : Int)), (7, .int .i64 (((i1 + 1) : Nat) : Int)), (6, .bool false), (0, .slice da dn dc), (1, .int .i64 ((a : Nat) : Int)), (2, .int .i64 ((b : Nat) : Int))]) rfl (b - (i1 + 1)) (by omega) ⟨i1 + 1, rfl, H4, (by omega), (by rw [hs]; exact ss_go (by omega) (by simpa using c204)), rfl⟩
        · skip
          refine W.exit (X.then_exit (X.then_exit (X.block_exit ?_)))
          exact X.cut [8, 7, 6, 0, 1, 2] (Γ' := [(8, .int .i64 ((k : Nat) : Int)), (7, .int .i64 ((i1 : Nat) : Int)), (6, .bool false), (0, .slice da dn dc), (1, .int .i64 ((a : Nat) : Int)), (2, .int .i64 ((b : Nat) : Int))]) rfl ⟨i1, rfl, H4, (by omega), (by exact hs.trans (ss_end (fun h => by first | exact absurd h.1 (by omega) | exact h.2 (by simpa using c204))))⟩
      · skip
        refine WD.take hok1 4 undef (fun _ => True) rfl rfl rfl rfl rfl trivial (.inr ⟨rfl, rfl⟩) ?_
        refine WD.take hok1 5 undef (fun _ => True) rfl rfl rfl rfl rfl trivial (.inr ⟨rfl, rfl⟩) ?_
        refine WD.take hok1 6 undef (fun _ => True) rfl rfl rfl rfl rfl trivial (.inr ⟨rfl, rfl⟩) ?_
        refine WD.take hok1 7 undef (fun _ => True) rfl rfl rfl rfl rfl trivial (.inr ⟨rfl, rfl⟩) ?_
        refine WD.take hok1 8 undef (fun _ => True) rfl rfl rfl rfl rfl trivial (.inr ⟨rfl, rfl⟩) ?_
        refine WD.take hok1 9 undef (fun _ => True) rfl rfl rfl rfl rfl trivial (.inr ⟨rfl, rfl⟩) ?_
        refine WD.take hok1 10 undef (fun _ => True) rfl rfl rfl rfl rfl trivial (.inr ⟨rfl, rfl⟩) ?_
        refine WD.take hok1 11 undef (fun _ => True) rfl rfl rfl rfl rfl trivial (.inr ⟨rfl, rfl⟩) ?_
        refine WD.take hok1 12 undef (fun _ => True) rfl rfl rfl rfl rfl trivial (.inr ⟨rfl, rfl⟩) ?_
        refine WD.take hok1 13 undef (fun _ => True) rfl rfl rfl rfl rfl trivial (.inr ⟨rfl, rfl⟩) ?_
        refine WD.take hok1 14 undef (fun _ => True) rfl rfl rfl rfl rfl trivial (.inr ⟨rfl, rfl⟩) ?_
        refine WD.take hok1 15 (.bool false) (fun _ => True) rfl rfl rfl rfl rfl trivial (.inl ⟨rfl, fun _ _ => d_pick rfl rfl ⟨rfl, rfl⟩⟩) ?_
        refine WD.done hok1 rfl (X.then_code ?_)
        refine W.iff rfl ?_
        refine W.exit (X.then_exit (X.then_exit (X.block_exit ?_)))
        exact X.cut [8, 7, 6, 0, 1, 2] (Γ' := [(8, .int .i64 ((k : Nat) : Int)), (7, .int .i64 ((i1 : Nat) : Int)), (6, .bool false), (0, .slice da dn dc), (1, .int .i64 ((a : Nat) : Int)), (2, .int .i64 ((b : Nat) : Int))]) rfl ⟨i1, rfl, H3, (by omega), (by exact hs.trans (ss_end (fun h => by first | exact absurd h.1 (by omega) | exact h.2 (by simpa using c204))))⟩
    rintro Γ3 w5 ⟨i2, rfl, H5, hi2, hSc⟩
    refine W.seq ?_
    refine W.seq ?_
    refine W.region ?_
    refine WL.op rfl (d_move rfl ?_)
    refine WL.op rfl (d_move rfl ?_)
    refine WL.op rfl (d_cmp (decide (((i2 : Nat) : Int) = ((b : Nat) : Int))) rfl rfl rfl ?_)
    refine WL.done (X.then_code ?_)
    refine W.ite (p := ((i2 : Nat) : Int) = ((b : Nat) : Int)) rfl (fun c208 => ?_) (fun c208 => ?_)
    · skip
      refine W.seq ?_
      refine W.region ?_
      refine WL.op rfl (d_assign rfl ?_)
      refine WL.done (X.then_code ?_)
      refine W.ret (X.then_ret (X.block_ret (X.then_ret (X.then_ret (X.block_ret (X.then_ret (X.ret1 rfl rfl ?_)))))))
      have e : Go.Sort.partialInsertionSort Go.Sort.ltInt xs.toArray a b = (ys.toArray, true) := by rw [← hI]; exact pins_yes (by omega) hSc (by omega)
      rw [e]
      exact ⟨(by rfl), (Upd.sel H5 (l := [0]) rfl rfl)⟩
    · skip
      refine W.skip (X.then_code ?_)
      refine W.seq ?_
      refine W.seq ?_
      refine W.region ?_
      refine WL.op rfl (d_move rfl ?_)
      refine WL.op rfl (d_move rfl ?_)
      refine WL.op rfl (d_sub rfl rfl (by omega) (by omega) ?_)
      refine WL.op rfl (d_cmp (decide ((((b : Nat) : Int) - ((a : Nat) : Int)) < (50 : Int))) rfl rfl rfl ?_)
      refine WL.done (X.then_code ?_)
      refine W.ite (p := (((b : Nat) : Int) - ((a : Nat) : Int)) < (50 : Int)) rfl (fun c212 => ?_) (fun c212 => ?_)
      · skip
        refine W.seq ?_
        refine W.region ?_
        refine WL.op rfl (d_assign rfl ?_)
        refine WL.done (X.then_code ?_)
        refine W.ret (X.then_ret (X.block_ret (X.then_ret (X.then_ret (X.block_ret (X.then_ret (X.ret1 rfl rfl ?_)))))))
        have e : Go.Sort.partialInsertionSort Go.Sort.ltInt xs.toArray a b = (ys.toArray, false) := by rw [← hI]; exact pins_no (by omega) hSc (by omega) (by omega)
        rw [e]
        exact ⟨(by rfl), (Upd.sel H5 (l := [0]) rfl rfl)⟩
      · skip
        refine W.skip (X.then_code ?_)
        refine W.seq ?_
        refine W.regionD mixed (by kernel_rfl) fun hok2 w6 k2 => ?_
        have H6 : UpG w [rowT (tyI .u8) (.slice da dn dc) 5 xs] w6 [[rowT (tyI .u8) (.slice da dn dc) 5 ys]] := H5.kept k2
        refine WD.take hok2 0 (.slice da dn dc) (fun _ => True) rfl rfl rfl rfl rfl trivial (.inl ⟨rfl, fun _ _ => d_move rfl ⟨rfl, rfl⟩⟩) ?_
        refine WD.take hok2 1 (.int .i64 ((i2 : Nat) : Int)) (fun _ => True) rfl rfl rfl rfl rfl trivial (.inl ⟨rfl, fun _ _ => d_move rfl ⟨rfl, rfl⟩⟩) ?_
        refine WD.take hok2 2 (.slice da dn dc) (fun _ => True) rfl rfl rfl rfl rfl trivial (.inl ⟨rfl, fun _ _ => d_move rfl ⟨rfl, rfl⟩⟩) ?_
        refine WD.take hok2 3 (.int .i64 ((i2 : Nat) : Int)) (fun _ => True) rfl rfl rfl rfl rfl trivial (.inl ⟨rfl, fun _ _ => d_move rfl ⟨rfl, rfl⟩⟩) ?_
        refine WD.take hok2 4 (.int .i64 (((i2 : Nat) : Int) - 1)) (fun _ => True) rfl rfl rfl rfl rfl trivial (.inl ⟨rfl, fun _ _ => d_sub rfl rfl (by omega) (by omega) ⟨rfl, rfl⟩⟩) ?_
        refine WD.take hok2 5 (.slice da dn dc) (fun _ => True) rfl rfl rfl rfl rfl trivial (.inl ⟨rfl, fun _ _ => d_move rfl ⟨rfl, rfl⟩⟩) ?_
        refine WD.take hok2 6 (.int .i64 ((i2 : Nat) : Int)) (fun _ => True) rfl rfl rfl rfl rfl trivial (.inl ⟨rfl, fun _ _ => d_move rfl ⟨rfl, rfl⟩⟩) ?_
        refine WD.take hok2 7 (.int .i64 (((i2 : Nat) : Int) - 1)) (fun _ => True) rfl rfl rfl rfl rfl trivial (.inl ⟨rfl, fun _ _ => d_sub rfl rfl (by omega) (by omega) ⟨rfl, rfl⟩⟩) ?_
        refine WD.take hok2 8 (elemPtr (.slice da dn dc) (i2 - 1)) (fun w' => RdT (tyI .u8) w' (.slice da dn dc) ys) rfl rfl rfl rfl rfl (H6.rdT 0 rfl) (.inl ⟨rfl, fun _ hC => t_addr1 (i2 - 1) (T := (tyI .u8)) rfl Try.underlying85 sz5 rfl rfl hC (by first | omega | (simp only [List.length_set]; omega)) (by first | omega | (simp only [List.length_set]; omega)) ⟨rfl, rfl⟩⟩) ?_
        refine WD.take hok2 9 (.int .u8 (ys.getD (i2 - 1) 0)) (fun w' => RdT (tyI .u8) w' (.slice da dn dc) ys) rfl rfl rfl rfl rfl (H6.rdT 0 rfl) (.inl ⟨rfl, fun _ hC => t_load1 (i2 - 1) 0 (T := (tyI .u8)) rfl Try.underlying5 rfl rfl hC (by first | omega | (simp only [List.length_set]; omega)) rfl ⟨rfl, rfl⟩⟩) ?_
        refine WD.take hok2 10 (.slice da dn dc) (fun _ => True) rfl rfl rfl rfl rfl trivial (.inl ⟨rfl, fun _ _ => d_move rfl ⟨rfl, rfl⟩⟩) ?_
        refine WD.take hok2 11 (.int .i64 ((i2 : Nat) : Int)) (fun _ => True) rfl rfl rfl rfl rfl trivial (.inl ⟨rfl, fun _ _ => d_move rfl ⟨rfl, rfl⟩⟩) ?_
        refine WD.take hok2 12 (elemPtr (.slice da dn dc) i2) (fun w' => RdT (tyI .u8) w' (.slice da dn dc) ys) rfl rfl rfl rfl rfl (H6.rdT 0 rfl) (.inl ⟨rfl, fun _ hC => t_addr1 i2 (T := (tyI .u8)) rfl Try.underlying85 sz5 rfl rfl hC (by first | omega | (simp only [List.length_set]; omega)) (by first | omega | (simp only [List.length_set]; omega)) ⟨rfl, rfl⟩⟩) ?_
        refine WD.take hok2 13 (.int .u8 (ys.getD i2 0)) (fun w' => RdT (tyI .u8) w' (.slice da dn dc) ys) rfl rfl rfl rfl rfl (H6.rdT 0 rfl) (.inl ⟨rfl, fun _ hC => t_load1 i2 0 (T := (tyI .u8)) rfl Try.underlying5 rfl rfl hC (by first | omega | (simp only [List.length_set]; omega)) rfl ⟨rfl, rfl⟩⟩) ?_
        refine WD.take hok2 14 (elemPtr (.slice da dn dc) i2) (fun w' => RdT (tyI .u8) w' (.slice da dn dc) ys) rfl rfl rfl rfl rfl (H6.rdT 0 rfl) (.inl ⟨rfl, fun _ hC => t_addr1 i2 (T := (tyI .u8)) rfl Try.underlying85 sz5 rfl rfl hC (by first | omega | (simp only [List.length_set]; omega)) (by first | omega | (simp only [List.length_set]; omega)) ⟨rfl, rfl⟩⟩) ?_
        refine WD.loud hok2 15 rfl (⟨_, [⟨4, .int .i64 (((i2 : Nat) : Int) - 1), (fun _ => True)⟩, ⟨3, .int .i64 ((i2 : Nat) : Int), (fun _ => True)⟩, ⟨2, .slice da dn dc, (fun _ => True)⟩], rfl, rfl, rfl, rfl, rfl, rfl, t_store1 i2 (ys.getD (i2 - 1) 0) (T := (tyI .u8)) (e := 5) rfl sz5 rfl rfl rfl (H6.ownT 0 rfl) (by first | omega | (simp only [List.length_set]; omega)) fun w7 u2 => ?_⟩)
        have H7 : UpG w [rowT (tyI .u8) (.slice da dn dc) 5 xs] w7 [[rowT (tyI .u8) (.slice da dn dc) 5 (ys.set i2 (ys.getD (i2 - 1) 0))]] := H6.on 0 rfl u2
        refine ⟨⟨trivial, trivial, trivial, trivial⟩, ?_⟩
        refine WD.take hok2 16 (elemPtr (.slice da dn dc) (i2 - 1)) (fun w' => RdT (tyI .u8) w' (.slice da dn dc) (ys.set i2 (ys.getD (i2 - 1) 0))) rfl rfl rfl rfl rfl (H7.rdT 0 rfl) (.inl ⟨rfl, fun _ hC => t_addr1 (i2 - 1) (T := (tyI .u8)) rfl Try.underlying85 sz5 rfl rfl hC (by first | omega | (simp only [List.length_set]; omega)) (by first | omega | (simp only [List.length_set]; omega)) ⟨rfl, rfl⟩⟩) ?_
        refine WD.loud hok2 17 rfl (⟨_, [], rfl, rfl, rfl, rfl, rfl, rfl, t_store1 (i2 - 1) (ys.getD i2 0) (T := (tyI .u8)) (e := 5) rfl sz5 rfl rfl rfl (H7.ownT 0 rfl) (by first | omega | (simp only [List.length_set]; omega)) fun w8 u3 => ?_⟩)
        have H8 : UpG w [rowT (tyI .u8) (.slice da dn dc) 5 xs] w8 [[rowT (tyI .u8) (.slice da dn dc) 5 ((ys.set i2 (ys.getD (i2 - 1) 0)).set (i2 - 1) (ys.getD i2 0))]] := H7.on 0 rfl u3
        refine ⟨trivial, ?_⟩
        refine WD.done hok2 rfl (X.then_code ?_)
        refine W.cut (fun Γ' w' => ∃ zs : List Int, Γ' = [(8, .int .i64 ((k : Nat) : Int)), (7, .int .i64 ((i2 : Nat) : Int)), (6, .bool false), (0, .slice da dn dc), (1, .int .i64 ((a : Nat) : Int)), (2, .int .i64 ((b : Nat) : Int))] ∧ UpG w [rowT (tyI .u8) (.slice da dn dc) 5 xs] w' [[rowT (tyI .u8) (.slice da dn dc) 5 zs]] ∧ (zs.length = xs.length) ∧ (zs.toArray = (if i2 - a ≥ 2 then Go.Sort.shiftDown Go.Sort.ltInt (i2 - 1) (sw ys i2 (i2 - 1)).toArray else (sw ys i2 (i2 - 1)).toArray))) ?_ ?_
        · skip
          refine W.seq ?_
          refine W.region ?_
          refine WL.op rfl (d_move rfl ?_)
          refine WL.op rfl (d_move rfl ?_)
          refine WL.op rfl (d_sub rfl rfl (by omega) (by omega) ?_)
          refine WL.op rfl (d_cmp (decide ((((i2 : Nat) : Int) - ((a : Nat) : Int)) ≥ (2 : Int))) rfl rfl rfl ?_)
          refine WL.done (X.then_code ?_)
          refine W.pick [61, 8, 7, 6, 0, 1, 2] (Γ' := [(61, .bool (decide ((((i2 : Nat) : Int) - ((a : Nat) : Int)) ≥ (2 : Int)))), (8, .int .i64 ((k : Nat) : Int)), (7, .int .i64 ((i2 : Nat) : Int)), (6, .bool false), (0, .slice da dn dc), (1, .int .i64 ((a : Nat) : Int)), (2, .int .i64 ((b : Nat) : Int))]) rfl ?_
          refine W.ite (p := (((i2 : Nat) : Int) - ((a : Nat) : Int)) ≥ (2 : Int)) rfl (fun c219 => ?_) (fun c219 => ?_)
          · skip
            refine W.seq ?_
            refine W.region ?_
            refine WL.op rfl (d_move rfl ?_)
            refine WL.op rfl (d_sub rfl rfl (by omega) (by omega) ?_)
            refine WL.op rfl (d_assign rfl ?_)
            refine WL.done (X.then_code ?_)
            refine W.block ?_
            refine W.pick [9, 8, 7, 6, 0, 1, 2] (Γ' := [(9, .int .i64 (((i2 : Nat) : Int) - 1)), (8, .int .i64 ((k : Nat) : Int)), (7, .int .i64 ((i2 : Nat) : Int)), (6, .bool false), (0, .slice da dn dc), (1, .int .i64 ((a : Nat) : Int)), (2, .int .i64 ((b : Nat) : Int))]) rfl ?_
            refine W.loop (fun m Γ' w' => ∃ j : Int, ∃ us : List Int, Γ' = [(9, .int .i64 j), (8, .int .i64 ((k : Nat) : Int)), (7, .int .i64 ((i2 : Nat) : Int)), (6, .bool false), (0, .slice da dn dc), (1, .int .i64 ((a : Nat) : Int)), (2, .int .i64 ((b : Nat) : Int))] ∧ UpG w [rowT (tyI .u8) (.slice da dn dc) 5 xs] w' [[rowT (tyI .u8) (.slice da dn dc) 5 us]] ∧ (0 ≤ j ∧ j ≤ (i2 : Int) - 1) ∧ (us.length = xs.length) ∧ (Go.Sort.shiftDown Go.Sort.ltInt ((i2 : Int) - 1).toNat (sw ys i2 (i2 - 1)).toArray = Go.Sort.shiftDown Go.Sort.ltInt j.toNat us.toArray) ∧ m = j.toNat) ((((i2 : Nat) : Int) - 1).toNat) ⟨((i2 : Nat) : Int) - 1, (ys.set i2 (ys.getD (i2 - 1) 0)).set (i2 - 1) (ys.getD i2 0), rfl, H8, (by omega), (by rw [sw_len']; exact hzys), (by rw [show ((i2 : Int) - 1).toNat = i2 - 1 by omega]; rfl), rfl⟩ ?_
            rintro m3 Γ4 w9 ⟨j, us, rfl, H9, hj, hzus, hU, rfl⟩
            refine W.seq ?_
            refine W.seq ?_
            refine W.region ?_
            refine WL.op rfl (d_move rfl ?_)
            refine WL.op rfl (d_cmp (decide (j ≥ (1 : Int))) rfl rfl rfl ?_)
            refine WL.done (X.then_code ?_)
            refine W.ite (p := j ≥ (1 : Int)) rfl (fun c220 => ?_) (fun c220 => ?_)
            · skip
              refine W.skip (X.then_code ?_)
              refine W.seq ?_
              refine W.block ?_
              refine W.seq ?_
              refine W.seq ?_
              refine W.regionD mixed (by kernel_rfl) fun hok3 w10 k3 => ?_
              have H10 : UpG w [rowT (tyI .u8) (.slice da dn dc) 5 xs] w10 [[rowT (tyI .u8) (.slice da dn dc) 5 us]] := H9.kept k3
              refine WD.take hok3 0 (.slice da dn dc) (fun _ => True) rfl rfl rfl rfl rfl trivial (.inl ⟨rfl, fun _ _ => d_move rfl ⟨rfl, rfl⟩⟩) ?_
              refine WD.take hok3 1 (.int .i64 j) (fun _ => True) rfl rfl rfl rfl rfl trivial (.inl ⟨rfl, fun _ _ => d_move rfl ⟨rfl, rfl⟩⟩) ?_
              refine WD.take hok3 2 (elemPtr (.slice da dn dc) j.toNat) (fun w' => RdT (tyI .u8) w' (.slice da dn dc) us) rfl rfl rfl rfl rfl (H10.rdT 0 rfl) (.inl ⟨rfl, fun _ hC => t_addr1 j.toNat (T := (tyI .u8)) rfl Try.underlying85 sz5 rfl rfl hC (by first | omega | (simp only [List.length_set]; omega)) (by first | omega | (simp only [List.length_set]; omega)) ⟨rfl, rfl⟩⟩) ?_
              refine WD.take hok3 3 (.int .u8 (us.getD j.toNat 0)) (fun w' => RdT (tyI .u8) w' (.slice da dn dc) us) rfl rfl rfl rfl rfl (H10.rdT 0 rfl) (.inl ⟨rfl, fun _ hC => t_load1 j.toNat 0 (T := (tyI .u8)) rfl Try.underlying5 rfl rfl hC (by first | omega | (simp only [List.length_set]; omega)) rfl ⟨rfl, rfl⟩⟩) ?_
              refine WD.take hok3 4 (.slice da dn dc) (fun _ => True) rfl rfl rfl rfl rfl trivial (.inl ⟨rfl, fun _ _ => d_move rfl ⟨rfl, rfl⟩⟩) ?_
              refine WD.take hok3 5 (.int .i64 j) (fun _ => True) rfl rfl rfl rfl rfl trivial (.inl ⟨rfl, fun _ _ => d_move rfl ⟨rfl, rfl⟩⟩) ?_
              refine WD.take hok3 6 (.int .i64 (j - 1)) (fun _ => True) rfl rfl rfl rfl rfl trivial (.inl ⟨rfl, fun _ _ => d_sub rfl rfl (by omega) (by omega) ⟨rfl, rfl⟩⟩) ?_
              refine WD.take hok3 7 (elemPtr (.slice da dn dc) ((j - 1).toNat)) (fun w' => RdT (tyI .u8) w' (.slice da dn dc) us) rfl rfl rfl rfl rfl (H10.rdT 0 rfl) (.inl ⟨rfl, fun _ hC => t_addr1 ((j - 1).toNat) (T := (tyI .u8)) rfl Try.underlying85 sz5 rfl rfl hC (by first | omega | (simp only [List.length_set]; omega)) (by first | omega | (simp only [List.length_set]; omega)) ⟨rfl, rfl⟩⟩) ?_
              refine WD.take hok3 8 (.int .u8 (us.getD ((j - 1).toNat) 0)) (fun w' => RdT (tyI .u8) w' (.slice da dn dc) us) rfl rfl rfl rfl rfl (H10.rdT 0 rfl) (.inl ⟨rfl, fun _ hC => t_load1 ((j - 1).toNat) 0 (T := (tyI .u8)) rfl Try.underlying5 rfl rfl hC (by first | omega | (simp only [List.length_set]; omega)) rfl ⟨rfl, rfl⟩⟩) ?_
              refine WD.loud hok3 9 rfl (⟨_, [], rfl, rfl, rfl, rfl, rfl, rfl, d_call ok124 rfl (Ret.calls (less8_any (us.getD j.toNat 0) (us.getD ((j - 1).toNat) 0) w10  ) fun _ w11 p2 => ?_)⟩)
              obtain ⟨rfl, u4⟩ := p2
              have H11 : UpG w [rowT (tyI .u8) (.slice da dn dc) 5 xs] w11 [[rowT (tyI .u8) (.slice da dn dc) 5 us]] := H10.call u4
              refine ⟨trivial, ?_⟩
              refine WD.take hok3 10 (.bool (decide (¬ ((us.getD j.toNat 0) < (us.getD ((j - 1).toNat) 0))))) (fun _ => True) rfl rfl rfl rfl rfl trivial (.inl ⟨rfl, fun _ _ => d_not (p := (us.getD j.toNat 0) < (us.getD ((j - 1).toNat) 0)) rfl ⟨rfl, rfl⟩⟩) ?_
              refine WD.done hok3 rfl (X.then_code ?_)
              refine W.ite (p := ¬ ((us.getD j.toNat 0) < (us.getD ((j - 1).toNat) 0))) rfl (fun c221 => ?_) (fun c221 => ?_)
              · skip
                refine W.exit (X.then_exit (X.block_exit' rfl (X.then_exit (X.then_exit (X.block_exit ?_)))))
                exact X.cut [8, 7, 6, 0, 1, 2] (Γ' := [(8, .int .i64 ((k : Nat) : Int)), (7, .int .i64 ((i2 : Nat) : Int)), (6, .bool false), (0, .slice da dn dc), (1, .int .i64 ((a : Nat) : Int)), (2, .int .i64 ((b : Nat) : Int))]) rfl ⟨us, rfl, H11, (by first | exact hzus | (rw [sw_len']; exact hzys)), (by first | (rw [if_neg (by omega)]; rfl) | (rw [if_pos (by omega)]; exact ((congrArg (fun t => Go.Sort.shiftDown Go.Sort.ltInt t (sw ys i2 (i2 - 1)).toArray) (show i2 - 1 = ((i2 : Int) - 1).toNat by omega)).trans (hU.trans (shd_end (by omega) (fun h => by first | exact absurd h.1 (by omega) | exact absurd h.2 (by simpa using c221))))).symm))⟩
              · skip
                refine W.skip (X.then_code ?_)
                refine W.regionD mixed (by kernel_rfl) fun hok4 w12 k4 => ?_
                have H12 : UpG w [rowT (tyI .u8) (.slice da dn dc) 5 xs] w12 [[rowT (tyI .u8) (.slice da dn dc) 5 us]] := H11.kept k4
                refine WD.take hok4 0 (.slice da dn dc) (fun _ => True) rfl rfl rfl rfl rfl trivial (.inl ⟨rfl, fun _ _ => d_move rfl ⟨rfl, rfl⟩⟩) ?_
                refine WD.take hok4 1 (.int .i64 j) (fun _ => True) rfl rfl rfl rfl rfl trivial (.inl ⟨rfl, fun _ _ => d_move rfl ⟨rfl, rfl⟩⟩) ?_
                refine WD.take hok4 2 (.slice da dn dc) (fun _ => True) rfl rfl rfl rfl rfl trivial (.inl ⟨rfl, fun _ _ => d_move rfl ⟨rfl, rfl⟩⟩) ?_
                refine WD.take hok4 3 (.int .i64 j) (fun _ => True) rfl rfl rfl rfl rfl trivial (.inl ⟨rfl, fun _ _ => d_move rfl ⟨rfl, rfl⟩⟩) ?_
                refine WD.take hok4 4 (.int .i64 (j - 1)) (fun _ => True) rfl rfl rfl rfl rfl trivial (.inl ⟨rfl, fun _ _ => d_sub rfl rfl (by omega) (by omega) ⟨rfl, rfl⟩⟩) ?_
                refine WD.take hok4 5 (.slice da dn dc) (fun _ => True) rfl rfl rfl rfl rfl trivial (.inl ⟨rfl, fun _ _ => d_move rfl ⟨rfl, rfl⟩⟩) ?_
                refine WD.take hok4 6 (.int .i64 j) (fun _ => True) rfl rfl rfl rfl rfl trivial (.inl ⟨rfl, fun _ _ => d_move rfl ⟨rfl, rfl⟩⟩) ?_
                refine WD.take hok4 7 (.int .i64 (j - 1)) (fun _ => True) rfl rfl rfl rfl rfl trivial (.inl ⟨rfl, fun _ _ => d_sub rfl rfl (by omega) (by omega) ⟨rfl, rfl⟩⟩) ?_
                refine WD.take hok4 8 (elemPtr (.slice da dn dc) ((j - 1).toNat)) (fun w' => RdT (tyI .u8) w' (.slice da dn dc) us) rfl rfl rfl rfl rfl (H12.rdT 0 rfl) (.inl ⟨rfl, fun _ hC => t_addr1 ((j - 1).toNat) (T := (tyI .u8)) rfl Try.underlying85 sz5 rfl rfl hC (by first | omega | (simp only [List.length_set]; omega)) (by first | omega | (simp only [List.length_set]; omega)) ⟨rfl, rfl⟩⟩) ?_
                refine WD.take hok4 9 (.int .u8 (us.getD ((j - 1).toNat) 0)) (fun w' => RdT (tyI .u8) w' (.slice da dn dc) us) rfl rfl rfl rfl rfl (H12.rdT 0 rfl) (.inl ⟨rfl, fun _ hC => t_load1 ((j - 1).toNat) 0 (T := (tyI .u8)) rfl Try.underlying5 rfl rfl hC (by first | omega | (simp only [List.length_set]; omega)) rfl ⟨rfl, rfl⟩⟩) ?_
                refine WD.take hok4 10 (.slice da dn dc) (fun _ => True) rfl rfl rfl rfl rfl trivial (.inl ⟨rfl, fun _ _ => d_move rfl ⟨rfl, rfl⟩⟩) ?_
                refine WD.take hok4 11 (.int .i64 j) (fun _ => True) rfl rfl rfl rfl rfl trivial (.inl ⟨rfl, fun _ _ => d_move rfl ⟨rfl, rfl⟩⟩) ?_
                refine WD.take hok4 12 (elemPtr (.slice da dn dc) j.toNat) (fun w' => RdT (tyI .u8) w' (.slice da dn dc) us) rfl rfl rfl rfl rfl (H12.rdT 0 rfl) (.inl ⟨rfl, fun _ hC => t_addr1 j.toNat (T := (tyI .u8)) rfl Try.underlying85 sz5 rfl rfl hC (by first | omega | (simp only [List.length_set]; omega)) (by first | omega | (simp only [List.length_set]; omega)) ⟨rfl, rfl⟩⟩) ?_
                refine WD.take hok4 13 (.int .u8 (us.getD j.toNat 0)) (fun w' => RdT (tyI .u8) w' (.slice da dn dc) us) rfl rfl rfl rfl rfl (H12.rdT 0 rfl) (.inl ⟨rfl, fun _ hC => t_load1 j.toNat 0 (T := (tyI .u8)) rfl Try.underlying5 rfl rfl hC (by first | omega | (simp only [List.length_set]; omega)) rfl ⟨rfl, rfl⟩⟩) ?_
                refine WD.take hok4 14 (elemPtr (.slice da dn dc) j.toNat) (fun w' => RdT (tyI .u8) w' (.slice da dn dc) us) rfl rfl rfl rfl rfl (H12.rdT 0 rfl) (.inl ⟨rfl, fun _ hC => t_addr1 j.toNat (T := (tyI .u8)) rfl Try.underlying85 sz5 rfl rfl hC (by first | omega | (simp only [List.length_set]; omega)) (by first | omega | (simp only [List.length_set]; omega)) ⟨rfl, rfl⟩⟩) ?_
                refine WD.loud hok4 15 rfl (⟨_, [⟨4, .int .i64 (j - 1), (fun _ => True)⟩, ⟨3, .int .i64 j, (fun _ => True)⟩, ⟨2, .slice da dn dc, (fun _ => True)⟩], rfl, rfl, rfl, rfl, rfl, rfl, t_store1 j.toNat (us.getD ((j - 1).toNat) 0) (T := (tyI .u8)) (e := 5) rfl sz5 rfl rfl rfl (H12.ownT 0 rfl) (by first | omega | (simp only [List.length_set]; omega)) fun w13 u5 => ?_⟩)
                have H13 : UpG w [rowT (tyI .u8) (.slice da dn dc) 5 xs] w13 [[rowT (tyI .u8) (.slice da dn dc) 5 (us.set j.toNat (us.getD ((j - 1).toNat) 0))]] := H12.on 0 rfl u5
                refine ⟨⟨trivial, trivial, trivial, trivial⟩, ?_⟩
                refine WD.take hok4 16 (elemPtr (.slice da dn dc) ((j - 1).toNat)) (fun w' => RdT (tyI .u8) w' (.slice da dn dc) (us.set j.toNat (us.getD ((j - 1).toNat) 0))) rfl rfl rfl rfl rfl (H13.rdT 0 rfl) (.inl ⟨rfl, fun _ hC => t_addr1 ((j - 1).toNat) (T := (tyI .u8)) rfl Try.underlying85 sz5 rfl rfl hC (by first | omega | (simp only [List.length_set]; omega)) (by first | omega | (simp only [List.length_set]; omega)) ⟨rfl, rfl⟩⟩) ?_
                refine WD.loud hok4 17 rfl (⟨_, [], rfl, rfl, rfl, rfl, rfl, rfl, t_store1 ((j - 1).toNat) (us.getD j.toNat 0) (T := (tyI .u8)) (e := 5) rfl sz5 rfl rfl rfl (H13.ownT 0 rfl) (by first | omega | (simp only [List.length_set]; omega)) fun w14 u6 => ?_⟩)
                have H14 : UpG w [rowT (tyI .u8) (.slice da dn dc) 5 xs] w14 [[rowT (tyI .u8) (.slice da dn dc) 5 ((us.set j.toNat (us.getD ((j - 1).toNat) 0)).set ((j - 1).toNat) (us.getD j.toNat 0))]] := H13.on 0 rfl u6
                refine ⟨trivial, ?_⟩
                refine WD.done hok4 rfl (X.block_normal (X.then_code ?_))
                refine W.pick [9, 8, 7, 6, 0, 1, 2] (Γ' := [(9, .int .i64 j), (8, .int .i64 ((k : Nat) : Int)), (7, .int .i64 ((i2 : Nat) : Int)), (6, .bool false), (0, .slice da dn dc), (1, .int .i64 ((a : Nat) : Int)), (2, .int .i64 ((b : Nat) : Int))]) rfl ?_
                refine W.region ?_
                refine WL.op rfl (d_move rfl ?_)
                refine WL.op rfl (d_sub rfl rfl (by omega) (by omega) ?_)
                refine WL.op rfl (d_assign rfl ?_)
                refine WL.done ?_
                exact X.next [9, 8, 7, 6, 0, 1, 2] (Γ' := [(9, .int .i64 (j - 1)), (8, .int .i64 ((k : Nat) : Int)), (7, .int .i64 ((i2 : Nat) : Int)), (6, .bool false), (0, .slice da dn dc), (1, .int .i64 ((a : Nat) : Int)), (2, .int .i64 ((b : Nat) : Int))]) rfl ((j - 1).toNat) (by omega) ⟨j - 1, (us.set j.toNat (us.getD ((j - 1).toNat) 0)).set ((j - 1).toNat) (us.getD j.toNat 0), rfl, H14, (by omega), (by rw [sw_len']; exact hzus), (by exact hU.trans (shd_go (by omega) (by simpa using c221))), rfl⟩
            · skip
              refine W.exit (X.then_exit (X.then_exit (X.block_exit ?_)))
              exact X.cut [8, 7, 6, 0, 1, 2] (Γ' := [(8, .int .i64 ((k : Nat) : Int)), (7, .int .i64 ((i2 : Nat) : Int)), (6, .bool false), (0, .slice da dn dc), (1, .int .i64 ((a : Nat) : Int)), (2, .int .i64 ((b : Nat) : Int))]) rfl ⟨us, rfl, H9, (by first | exact hzus | (rw [sw_len']; exact hzys)), (by first | (rw [if_neg (by omega)]; rfl) | (rw [if_pos (by omega)]; exact ((congrArg (fun t => Go.Sort.shiftDown Go.Sort.ltInt t (sw ys i2 (i2 - 1)).toArray) (show i2 - 1 = ((i2 : Int) - 1).toNat by omega)).trans (hU.trans (shd_end (by omega) (fun h => by first | exact absurd h.1 (by omega) | exact absurd h.2 (by simpa using c221))))).symm))⟩
          · skip
            refine W.skip ?_
            exact X.cut [8, 7, 6, 0, 1, 2] (Γ' := [(8, .int .i64 ((k : Nat) : Int)), (7, .int .i64 ((i2 : Nat) : Int)), (6, .bool false), (0, .slice da dn dc), (1, .int .i64 ((a : Nat) : Int)), (2, .int .i64 ((b : Nat) : Int))]) rfl ⟨(ys.set i2 (ys.getD (i2 - 1) 0)).set (i2 - 1) (ys.getD i2 0), rfl, H8, (by first | exact hzus | (rw [sw_len']; exact hzys)), (by first | (rw [if_neg (by omega)]; rfl) | (rw [if_pos (by omega)]; exact ((congrArg (fun t => Go.Sort.shiftDown Go.Sort.ltInt t (sw ys i2 (i2 - 1)).toArray) (show i2 - 1 = ((i2 : Int) - 1).toNat by omega)).trans (hU.trans (shd_end (by omega) (fun h => by first | exact absurd h.1 (by omega) | exact absurd h.2 (by simpa using c221))))).symm))⟩
        rintro Γ5 w15 ⟨zs, rfl, H15, hzzs, hZ⟩
        refine W.seq ?_
        refine W.region ?_
        refine WL.op rfl (d_move rfl ?_)
        refine WL.op rfl (d_move rfl ?_)
        refine WL.op rfl (d_sub rfl rfl (by omega) (by omega) ?_)
        refine WL.op rfl (d_cmp (decide ((((b : Nat) : Int) - ((i2 : Nat) : Int)) ≥ (2 : Int))) rfl rfl rfl ?_)
        refine WL.done (X.then_code ?_)
        refine W.ite (p := (((b : Nat) : Int) - ((i2 : Nat) : Int)) ≥ (2 : Int)) rfl (fun c228 => ?_) (fun c228 => ?_)
        · skip
          refine W.seq ?_
          refine W.region ?_
          refine WL.op rfl (d_move rfl ?_)
          refine WL.op rfl (d_add rfl rfl (by omega) (by omega) ?_)
          refine WL.op rfl (d_assign rfl ?_)
          refine WL.done (X.then_code ?_)
          refine W.block ?_
          refine W.pick [10, 8, 7, 6, 0, 1, 2] (Γ' := [(10, .int .i64 (((i2 : Nat) : Int) + 1)), (8, .int .i64 ((k : Nat) : Int)), (7, .int .i64 ((i2 : Nat) : Int)), (6, .bool false), (0, .slice da dn dc), (1, .int .i64 ((a : Nat) : Int)), (2, .int .i64 ((b : Nat) : Int))]) rfl ?_
          refine W.loop (fun m Γ' w' => ∃ q : Nat, ∃ vs : List Int, Γ' = [(10, .int .i64 ((q : Nat) : Int)), (8, .int .i64 ((k : Nat) : Int)), (7, .int .i64 ((i2 : Nat) : Int)), (6, .bool false), (0, .slice da dn dc), (1, .int .i64 ((a : Nat) : Int)), (2, .int .i64 ((b : Nat) : Int))] ∧ UpG w [rowT (tyI .u8) (.slice da dn dc) 5 xs] w' [[rowT (tyI .u8) (.slice da dn dc) 5 vs]] ∧ (i2 + 1 ≤ q) ∧ (vs.length = xs.length) ∧ (Go.Sort.shiftUp Go.Sort.ltInt b (i2 + 1) zs.toArray = Go.Sort.shiftUp Go.Sort.ltInt b q vs.toArray) ∧ m = b - q) (b - (i2 + 1)) ⟨i2 + 1, zs, rfl, H15, (by omega), (by exact hzzs), (by rfl), rfl⟩ ?_
          rintro m4 Γ6 w16 ⟨q, vs, rfl, H16, hq, hzvs, hV, rfl⟩
          refine W.seq ?_
          refine W.seq ?_
          refine W.region ?_
          refine WL.op rfl (d_move rfl ?_)
          refine WL.op rfl (d_move rfl ?_)
          refine WL.op rfl (d_cmp (decide (((q : Nat) : Int) < ((b : Nat) : Int))) rfl rfl rfl ?_)
          refine WL.done (X.then_code ?_)
          refine W.ite (p := ((q : Nat) : Int) < ((b : Nat) : Int)) rfl (fun c229 => ?_) (fun c229 => ?_)
          · skip
            refine W.skip (X.then_code ?_)
            refine W.seq ?_
            refine W.block ?_
            refine W.seq ?_
            refine W.seq ?_
            refine W.regionD mixed (by kernel_rfl) fun hok5 w17 k5 => ?_
            have H17 : UpG w [rowT (tyI .u8) (.slice da dn dc) 5 xs] w17 [[rowT (tyI .u8) (.slice da dn dc) 5 vs]] := H16.kept k5
            refine WD.take hok5 0 (.slice da dn dc) (fun _ => True) rfl rfl rfl rfl rfl trivial (.inl ⟨rfl, fun _ _ => d_move rfl ⟨rfl, rfl⟩⟩) ?_
            refine WD.take hok5 1 (.int .i64 ((q : Nat) : Int)) (fun _ => True) rfl rfl rfl rfl rfl trivial (.inl ⟨rfl, fun _ _ => d_move rfl ⟨rfl, rfl⟩⟩) ?_
            refine WD.take hok5 2 (elemPtr (.slice da dn dc) q) (fun w' => RdT (tyI .u8) w' (.slice da dn dc) vs) rfl rfl rfl rfl rfl (H17.rdT 0 rfl) (.inl ⟨rfl, fun _ hC => t_addr1 q (T := (tyI .u8)) rfl Try.underlying85 sz5 rfl rfl hC (by first | omega | (simp only [List.length_set]; omega)) (by first | omega | (simp only [List.length_set]; omega)) ⟨rfl, rfl⟩⟩) ?_
            refine WD.take hok5 3 (.int .u8 (vs.getD q 0)) (fun w' => RdT (tyI .u8) w' (.slice da dn dc) vs) rfl rfl rfl rfl rfl (H17.rdT 0 rfl) (.inl ⟨rfl, fun _ hC => t_load1 q 0 (T := (tyI .u8)) rfl Try.underlying5 rfl rfl hC (by first | omega | (simp only [List.length_set]; omega)) rfl ⟨rfl, rfl⟩⟩) ?_
            refine WD.take hok5 4 (.slice da dn dc) (fun _ => True) rfl rfl rfl rfl rfl trivial (.inl ⟨rfl, fun _ _ => d_move rfl ⟨rfl, rfl⟩⟩) ?_
            refine WD.take hok5 5 (.int .i64 ((q : Nat) : Int)) (fun _ => True) rfl rfl rfl rfl rfl trivial (.inl ⟨rfl, fun _ _ => d_move rfl ⟨rfl, rfl⟩⟩) ?_
            refine WD.take hok5 6 (.int .i64 (((q : Nat) : Int) - 1)) (fun _ => True) rfl rfl rfl rfl rfl trivial (.inl ⟨rfl, fun _ _ => d_sub rfl rfl (by omega) (by omega) ⟨rfl, rfl⟩⟩) ?_
            refine WD.take hok5 7 (elemPtr (.slice da dn dc) (q - 1)) (fun w' => RdT (tyI .u8) w' (.slice da dn dc) vs) rfl rfl rfl rfl rfl (H17.rdT 0 rfl) (.inl ⟨rfl, fun _ hC => t_addr1 (q - 1) (T := (tyI .u8)) rfl Try.underlying85 sz5 rfl rfl hC (by first | omega | (simp only [List.length_set]; omega)) (by first | omega | (simp only [List.length_set]; omega)) ⟨rfl, rfl⟩⟩) ?_
            refine WD.take hok5 8 (.int .u8 (vs.getD (q - 1) 0)) (fun w' => RdT (tyI .u8) w' (.slice da dn dc) vs) rfl rfl rfl rfl rfl (H17.rdT 0 rfl) (.inl ⟨rfl, fun _ hC => t_load1 (q - 1) 0 (T := (tyI .u8)) rfl Try.underlying5 rfl rfl hC (by first | omega | (simp only [List.length_set]; omega)) rfl ⟨rfl, rfl⟩⟩) ?_
            refine WD.loud hok5 9 rfl (⟨_, [], rfl, rfl, rfl, rfl, rfl, rfl, d_call ok124 rfl (Ret.calls (less8_any (vs.getD q 0) (vs.getD (q - 1) 0) w17  ) fun _ w18 p3 => ?_)⟩)
            obtain ⟨rfl, u7⟩ := p3
            have H18 : UpG w [rowT (tyI .u8) (.slice da dn dc) 5 xs] w18 [[rowT (tyI .u8) (.slice da dn dc) 5 vs]] := H17.call u7
            refine ⟨trivial, ?_⟩
            refine WD.take hok5 10 (.bool (decide (¬ ((vs.getD q 0) < (vs.getD (q - 1) 0))))) (fun _ => True) rfl rfl rfl rfl rfl trivial (.inl ⟨rfl, fun _ _ => d_not (p := (vs.getD q 0) < (vs.getD (q - 1) 0)) rfl ⟨rfl, rfl⟩⟩) ?_
            refine WD.done hok5 rfl (X.then_code ?_)
            refine W.ite (p := ¬ ((vs.getD q 0) < (vs.getD (q - 1) 0))) rfl (fun c230 => ?_) (fun c230 => ?_)
            · skip
              refine W.exit (X.then_exit (X.block_exit' rfl (X.then_exit (X.then_exit (X.block_exit (X.block_normal (X.then_code ?_)))))))
              refine W.region ?_
              refine WL.op rfl (d_move rfl ?_)
              refine WL.op rfl (d_add rfl rfl (by omega) (by omega) ?_)
              refine WL.op rfl (d_assign rfl ?_)
              refine WL.done ?_
              exact X.next [8, 7, 6, 0, 1, 2] (Γ' := [(8, .int .i64 (((k + 1) : Nat) : Int)), (7, .int .i64 ((i2 : Nat) : Int)), (6, .bool false), (0, .slice da dn dc), (1, .int .i64 ((a : Nat) : Int)), (2, .int .i64 ((b : Nat) : Int))]) rfl (5 - (k + 1)) (by omega) ⟨i2, k + 1, vs, rfl, H18, (by omega), (by omega), (by first | exact hzvs | exact hzzs), (by rw [← hI]; exact pins_go (by omega) hSc (by omega) (by omega) hZ (by first | rw [if_neg (by omega)] | (rw [if_pos (by omega), hV]; exact (shu_end (fun h => by first | exact absurd h.1 (by omega) | exact absurd h.2 (by simpa using c230))).symm))), rfl⟩
            · skip
              refine W.skip (X.then_code ?_)
              refine W.regionD mixed (by kernel_rfl) fun hok6 w19 k6 => ?_
              have H19 : UpG w [rowT (tyI .u8) (.slice da dn dc) 5 xs] w19 [[rowT (tyI .u8) (.slice da dn dc) 5 vs]] := H18.kept k6
              refine WD.take hok6 0 (.slice da dn dc) (fun _ => True) rfl rfl rfl rfl rfl trivial (.inl ⟨rfl, fun _ _ => d_move rfl ⟨rfl, rfl⟩⟩) ?_
              refine WD.take hok6 1 (.int .i64 ((q : Nat) : Int)) (fun _ => True) rfl rfl rfl rfl rfl trivial (.inl ⟨rfl, fun _ _ => d_move rfl ⟨rfl, rfl⟩⟩) ?_
              refine WD.take hok6 2 (.slice da dn dc) (fun _ => True) rfl rfl rfl rfl rfl trivial (.inl ⟨rfl, fun _ _ => d_move rfl ⟨rfl, rfl⟩⟩) ?_
              refine WD.take hok6 3 (.int .i64 ((q : Nat) : Int)) (fun _ => True) rfl rfl rfl rfl rfl trivial (.inl ⟨rfl, fun _ _ => d_move rfl ⟨rfl, rfl⟩⟩) ?_
              refine WD.take hok6 4 (.int .i64 (((q : Nat) : Int) - 1)) (fun _ => True) rfl rfl rfl rfl rfl trivial (.inl ⟨rfl, fun _ _ => d_sub rfl rfl (by omega) (by omega) ⟨rfl, rfl⟩⟩) ?_
              refine WD.take hok6 5 (.slice da dn dc) (fun _ => True) rfl rfl rfl rfl rfl trivial (.inl ⟨rfl, fun _ _ => d_move rfl ⟨rfl, rfl⟩⟩) ?_
              refine WD.take hok6 6 (.int .i64 ((q : Nat) : Int)) (fun _ => True) rfl rfl rfl rfl rfl trivial (.inl ⟨rfl, fun _ _ => d_move rfl ⟨rfl, rfl⟩⟩) ?_
              refine WD.take hok6 7 (.int .i64 (((q : Nat) : Int) - 1)) (fun _ => True) rfl rfl rfl rfl rfl trivial (.inl ⟨rfl, fun _ _ => d_sub rfl rfl (by omega) (by omega) ⟨rfl, rfl⟩⟩) ?_
              refine WD.take hok6 8 (elemPtr (.slice da dn dc) (q - 1)) (fun w' => RdT (tyI .u8) w' (.slice da dn dc) vs) rfl rfl rfl rfl rfl (H19.rdT 0 rfl) (.inl ⟨rfl, fun _ hC => t_addr1 (q - 1) (T := (tyI .u8)) rfl Try.underlying85 sz5 rfl rfl hC (by first | omega | (simp only [List.length_set]; omega)) (by first | omega | (simp only [List.length_set]; omega)) ⟨rfl, rfl⟩⟩) ?_
              refine WD.take hok6 9 (.int .u8 (vs.getD (q - 1) 0)) (fun w' => RdT (tyI .u8) w' (.slice da dn dc) vs) rfl rfl rfl rfl rfl (H19.rdT 0 rfl) (.inl ⟨rfl, fun _ hC => t_load1 (q - 1) 0 (T := (tyI .u8)) rfl Try.underlying5 rfl rfl hC (by first | omega | (simp only [List.length_set]; omega)) rfl ⟨rfl, rfl⟩⟩) ?_
              refine WD.take hok6 10 (.slice da dn dc) (fun _ => True) rfl rfl rfl rfl rfl trivial (.inl ⟨rfl, fun _ _ => d_move rfl ⟨rfl, rfl⟩⟩) ?_
              refine WD.take hok6 11 (.int .i64 ((q : Nat) : Int)) (fun _ => True) rfl rfl rfl rfl rfl trivial (.inl ⟨rfl, fun _ _ => d_move rfl ⟨rfl, rfl⟩⟩) ?_
              refine WD.take hok6 12 (elemPtr (.slice da dn dc) q) (fun w' => RdT (tyI .u8) w' (.slice da dn dc) vs) rfl rfl rfl rfl rfl (H19.rdT 0 rfl) (.inl ⟨rfl, fun _ hC => t_addr1 q (T := (tyI .u8)) rfl Try.underlying85 sz5 rfl rfl hC (by first | omega | (simp only [List.length_set]; omega)) (by first | omega | (simp only [List.length_set]; omega)) ⟨rfl, rfl⟩⟩) ?_
              refine WD.take hok6 13 (.int .u8 (vs.getD q 0)) (fun w' => RdT (tyI .u8) w' (.slice da dn dc) vs) rfl rfl rfl rfl rfl (H19.rdT 0 rfl) (.inl ⟨rfl, fun _ hC => t_load1 q 0 (T := (tyI .u8)) rfl Try.underlying5 rfl rfl hC (by first | omega | (simp only [List.length_set]; omega)) rfl ⟨rfl, rfl⟩⟩) ?_
              refine WD.take hok6 14 (elemPtr (.slice da dn dc) q) (fun w' => RdT (tyI .u8) w' (.slice da dn dc) vs) rfl rfl rfl rfl rfl (H19.rdT 0 rfl) (.inl ⟨rfl, fun _ hC => t_addr1 q (T := (tyI .u8)) rfl Try.underlying85 sz5 rfl rfl hC (by first | omega | (simp only [List.length_set]; omega)) (by first | omega | (simp only [List.length_set]; omega)) ⟨rfl, rfl⟩⟩) ?_
              refine WD.loud hok6 15 rfl (⟨_, [⟨4, .int .i64 (((q : Nat) : Int) - 1), (fun _ => True)⟩, ⟨3, .int .i64 ((q : Nat) : Int), (fun _ => True)⟩, ⟨2, .slice da dn dc, (fun _ => True)⟩], rfl, rfl, rfl, rfl, rfl, rfl, t_store1 q (vs.getD (q - 1) 0) (T := (tyI .u8)) (e := 5) rfl sz5 rfl rfl rfl (H19.ownT 0 rfl) (by first | omega | (simp only [List.length_set]; omega)) fun w20 u8 => ?_⟩)
              have H20 : UpG w [rowT (tyI .u8) (.slice da dn dc) 5 xs] w20 [[rowT (tyI .u8) (.slice da dn dc) 5 (vs.set q (vs.getD (q - 1) 0))]] := H19.on 0 rfl u8
              refine ⟨⟨trivial, trivial, trivial, trivial⟩, ?_⟩
              refine WD.take hok6 16 (elemPtr (.slice da dn dc) (q - 1)) (fun w' => RdT (tyI .u8) w' (.slice da dn dc) (vs.set q (vs.getD (q - 1) 0))) rfl rfl rfl rfl rfl (H20.rdT 0 rfl) (.inl ⟨rfl, fun _ hC => t_addr1 (q - 1) (T := (tyI .u8)) rfl Try.underlying85 sz5 rfl rfl hC (by first | omega | (simp only [List.length_set]; omega)) (by first | omega | (simp only [List.length_set]; omega)) ⟨rfl, rfl⟩⟩) ?_
              refine WD.loud hok6 17 rfl (⟨_, [], rfl, rfl, rfl, rfl, rfl, rfl, t_store1 (q - 1) (vs.getD q 0) (T := (tyI .u8)) (e := 5) rfl sz5 rfl rfl rfl (H20.ownT 0 rfl) (by first | omega | (simp only [List.length_set]; omega)) fun w21 u9 => ?_⟩)
              have H21 : UpG w [rowT (tyI .u8) (.slice da dn dc) 5 xs] w21 [[rowT (tyI .u8) (.slice da dn dc) 5 ((vs.set q (vs.getD (q - 1) 0)).set (q - 1) (vs.getD q 0))]] := H20.on 0 rfl u9
              refine ⟨trivial, ?_⟩
              refine WD.done hok6 rfl (X.block_normal (X.then_code ?_))
              refine W.pick [10, 8, 7, 6, 0, 1, 2] (Γ' := [(10, .int .i64 ((q : Nat) : Int)), (8, .int .i64 ((k : Nat) : Int)), (7, .int .i64 ((i2 : Nat) : Int)), (6, .bool false), (0, .slice da dn dc), (1, .int .i64 ((a : Nat) : Int)), (2, .int .i64 ((b : Nat) : Int))]) rfl ?_
              refine W.region ?_
              refine WL.op rfl (d_move rfl ?_)
              refine WL.op rfl (d_add rfl rfl (by omega) (by omega) ?_)
              refine WL.op rfl (d_assign rfl ?_)
              refine WL.done ?_
              exact X.next [10, 8, 7, 6, 0, 1, 2] (Γ' := [(10, .int .i64 (((q + 1) : Nat) : Int)), (8, .int .i64 ((k : Nat) : Int)), (7, .int .i64 ((i2 : Nat) : Int)), (6, .bool false), (0, .slice da dn dc), (1, .int .i64 ((a : Nat) : Int)), (2, .int .i64 ((b : Nat) : Int))]) rfl (b - (q + 1)) (by omega) ⟨q + 1, (vs.set q (vs.getD (q - 1) 0)).set (q - 1) (vs.getD q 0), rfl, H21, (by omega), (by rw [sw_len']; exact hzvs), (by exact hV.trans (shu_go (by omega) (by simpa using c230))), rfl⟩
          · skip
            refine W.exit (X.then_exit (X.then_exit (X.block_exit (X.block_normal (X.then_code ?_)))))
            refine W.region ?_
            refine WL.op rfl (d_move rfl ?_)
            refine WL.op rfl (d_add rfl rfl (by omega) (by omega) ?_)
            refine WL.op rfl (d_assign rfl ?_)
            refine WL.done ?_
            exact X.next [8, 7, 6, 0, 1, 2] (Γ' := [(8, .int .i64 (((k + 1) : Nat) : Int)), (7, .int .i64 ((i2 : Nat) : Int)), (6, .bool false), (0, .slice da dn dc), (1, .int .i64 ((a : Nat) : Int)), (2, .int .i64 ((b : Nat) : Int))]) rfl (5 - (k + 1)) (by omega) ⟨i2, k + 1, vs, rfl, H16, (by omega), (by omega), (by first | exact hzvs | exact hzzs), (by rw [← hI]; exact pins_go (by omega) hSc (by omega) (by omega) hZ (by first | rw [if_neg (by omega)] | (rw [if_pos (by omega), hV]; exact (shu_end (fun h => by first | exact absurd h.1 (by omega) | exact absurd h.2 (by simpa using c230))).symm))), rfl⟩
        · skip
          refine W.skip (X.block_normal (X.then_code ?_))
          refine W.region ?_
          refine WL.op rfl (d_move rfl ?_)
          refine WL.op rfl (d_add rfl rfl (by omega) (by omega) ?_)
          refine WL.op rfl (d_assign rfl ?_)
          refine WL.done ?_
          exact X.next [8, 7, 6, 0, 1, 2] (Γ' := [(8, .int .i64 (((k + 1) : Nat) : Int)), (7, .int .i64 ((i2 : Nat) : Int)), (6, .bool false), (0, .slice da dn dc), (1, .int .i64 ((a : Nat) : Int)), (2, .int .i64 ((b : Nat) : Int))]) rfl (5 - (k + 1)) (by omega) ⟨i2, k + 1, zs, rfl, H15, (by omega), (by omega), (by first | exact hzvs | exact hzzs), (by rw [← hI]; exact pins_go (by omega) hSc (by omega) (by omega) hZ (by first | rw [if_neg (by omega)] | (rw [if_pos (by omega), hV]; exact (shu_end (fun h => by first | exact absurd h.1 (by omega) | exact absurd h.2 (by simpa using c230))).symm))), rfl⟩
  · skip
    refine W.exit (X.then_exit (X.then_exit (X.block_exit (X.then_code ?_))))
    refine W.seq ?_
    refine W.region ?_
    refine WL.op rfl (d_assign rfl ?_)
    refine WL.done (X.then_code ?_)
    refine W.ret (X.ret1 rfl rfl ?_)
    have e : Go.Sort.partialInsertionSort Go.Sort.ltInt xs.toArray a b = (ys.toArray, false) := by rw [← hI, show 5 - k = 0 by omega]; rfl
    rw [e]
    exact ⟨(by rfl), (Upd.sel H1 (l := [0]) rfl rfl)⟩
end Go.Proofs.Ytoeockpkkmgieaa
