/- The walks of functions, printed by wip/tools/gw.py. -/
import Derived.Test.YtnjjjmpdikpjaabDoorConsoleScriptsB1
import Derived.Test.YtnjjjmpdikpjaabDoorConsoleScriptsB2
import Derived.Lib.Bytealg
import Derived.Lib.SplitLaws
import Derived.Lib.Join
namespace Go.Proofs.YtnjjjmpdikpjaabDoor
open Go Go.Sx
set_option linter.unusedVariables false
set_option linter.unusedSimpArgs false
set_option maxRecDepth 20000 in
theorem number_any_step (n : Int) (N : Nat) (w : World) (hn : i64ok n) (hN : n.natAbs < N + 1) (ih : ∀ (n : Int) (w : World) (hn : i64ok n) (hlt : n.natAbs < N), Calls Tryd.prog 30 #[.int .i64 n] w (Ret fun v w' => v = .string (numB n) ∧ Upd w [] w' [])) :
   Calls Tryd.prog 30 #[.int .i64 n] w (Ret fun v w' => v = .string (numB n) ∧ Upd w [] w' []) := by
 have hn1 := hn.1
 have hn2 := hn.2
 have hq := quo_ok hn
 have hq1 := hq.1
 have hq2 := hq.2
 have hsz := numB_size hn
 have hszq := numB_size hq
 have hd := dgs_size
 have hd1 := minus_size
 refine calls_of_W (args := [.int .i64 n]) Tryd.func30 rfl rfl rfl ?_
 have H0 : UpG w [] w [] := UpG.nil w
 show W _ _ _ _ [(0, _)] w
 refine sr (ag rfl (dc (W.seq (W.region (ag rfl (dc (W.seq (W.seq (W.region (mv rfl (oo (d_cmp _ rfl rfl rfl (mv rfl ?_)))))))))))))
 refine WL.part 7 rfl (fun g9 => ?_) (fun g9 => ?_)
 · refine WL.opG rfl rfl rfl (d_move rfl (WL.opG rfl rfl rfl (d_cmp _ rfl rfl rfl (oo (d_pick rfl rfl (dc ?_))))))
   refine W.ite rfl (fun c9 => ?_) (fun c9 => ?_)
   · refine sr (mv rfl (mv rfl (oo (d_neg rfl (by omega) (by omega) (mv rfl (oo (d_neg rfl (by omega) (by omega) (oo (d_add rfl rfl (by omega) (by omega) (oo (d_substrN (-n) ((-n) + 1) ((-n).toNat) (((-n) + 1).toNat) y9 rfl rfl rfl (.inr ⟨_, rfl⟩) (.inr ⟨_, rfl⟩) (by omega) (by omega) ⟨by omega, by omega, by omega⟩ (oo (d_concat rfl rfl (by rw [ByteArray.size_extract]; omega) (ag rfl (dc (W.ret (X.then_ret (X.ret1 rfl rfl ?_))))))))))))))))))
     exact ⟨(by rw [numB_neg1 g9 c9]; rfl), H0.noneL⟩
   · refine sc (W.seq (W.seq (W.region (mv rfl (oo (d_cmp _ rfl rfl rfl (mv rfl ?_)))))))
     refine WL.part 21 rfl (fun g12 => ?_) (fun g12 => ?_)
     · refine WL.opG rfl rfl rfl (d_move rfl (WL.opG rfl rfl rfl (d_cmp _ rfl rfl rfl (oo (d_pick rfl rfl (dc ?_))))))
       refine W.ite rfl (fun c12 => ?_) (fun c12 => ?_)
       · refine sr (mv rfl (mv rfl (mv rfl (oo (d_add rfl rfl (by omega) (by omega) (oo (d_substrN n (n + 1) n.toNat ((n + 1).toNat) y9 rfl rfl rfl (.inr ⟨_, rfl⟩) (.inr ⟨_, rfl⟩) (by omega) (by omega) ⟨by omega, by omega, by omega⟩ (ag rfl (dc (W.ret (X.then_ret (X.ret1 rfl rfl ?_))))))))))))
         exact ⟨(by rw [numB_pos1 g12 c12]; rfl), H0.noneL⟩
       · refine sc (W.seq (W.region (mv rfl (oo (d_rem rfl rfl (by omega) (ag rfl (dc ?_)))))))
         refine W.ct (B := [(3, _), (2, _), (0, _)]) (R := []) [3, 2, 0] 0 rfl H0 rfl (fun B R L Γ' w' => ∃ last : Int, Γ' = (4, .int .i64 last) :: B ∧ UpG w L w' (R) ∧ (last = (if n.tmod 10 < 0 then -(n.tmod 10) else n.tmod 10))) ?_ ?_
         · refine W.seq ?_
           have hst : n.tmod 10 ≤ 9 ∧ -9 ≤ n.tmod 10 := tmod_range n
           refine W.region (mv rfl (oo (d_cmp _ rfl rfl rfl (dc ?_))))
           refine W.ite rfl (fun c16 => ?_) (fun c16 => ?_)
           · refine W.region (mv rfl (oo (d_neg rfl (by omega) (by omega) (ag rfl (WL.done ?_)))))
             exact X.cu [4, 3, 2, 0] ⟨-(n.tmod 10), rfl, H0, (by first | (rw [if_pos c16]) | (rw [if_neg c16]))⟩ rfl
           · refine W.skip ?_
             exact X.cu [4, 3, 2, 0] ⟨n.tmod 10, rfl, H0, (by first | (rw [if_pos c16]) | (rw [if_neg c16]))⟩ rfl
         rintro Γ1 w1 ⟨last, rfl, H1, hl⟩
         refine W.seq ?_
         have hst := numB_step (by intro h; first | exact c9 h.2 | exact g9 h.1) (by intro h; first | exact c12 h.2 | exact g12 h.1) hl
         obtain ⟨h1, h2, h3⟩ := hst
         have hless := quo_less (n := n) (by intro h; first | exact c9 h.2 | exact g9 h.1) (by intro h; first | exact c12 h.2 | exact g12 h.1)
         refine W.regionD mixed (by kernel_rfl) fun hok1 w2 k1 => ?_
         have H2 : UpG _ _ _ [] := H1.kept k1
         refine tm hok1 0 rfl rfl (tq hok1 1 rfl rfl (fun _ => d_quoT rfl rfl (by omega) (by omega) (by omega) ⟨rfl, rfl⟩) (tm hok1 3 rfl rfl (tm hok1 4 rfl rfl (tm hok1 5 rfl rfl (tq hok1 6 rfl rfl (fun _ => d_add rfl rfl (by omega) (by omega) ⟨rfl, rfl⟩) (tq hok1 7 rfl rfl (fun _ => d_substrN last (last + 1) last.toNat ((last + 1).toNat) y9 rfl rfl rfl (.inr ⟨_, rfl⟩) (.inr ⟨_, rfl⟩) (by omega) (by omega) ⟨by omega, by omega, by omega⟩ ⟨rfl, rfl⟩) (wo hok1 2 (lo [_, _, _, _, _] rfl rfl (d_call ok30 rfl (Ret.calls (ih _ w2  hq (by omega)) fun _ w3 p1 => ?_))))))))))
         obtain ⟨rfl, u1⟩ := p1
         have H3 : UpG _ _ _ [] := H2.call u1
         refine ⟨⟨trivial, trivial, trivial, trivial, trivial, trivial⟩, (tq hok1 8 rfl rfl (fun _ => d_concat rfl rfl (by rw [ByteArray.size_extract]; omega) ⟨rfl, rfl⟩) (tq hok1 9 rfl rfl (fun _ => d_assign rfl ⟨rfl, rfl⟩) (WD.done hok1 rfl (X.then_code (W.ret (X.ret1 rfl rfl ?_))))))⟩
         exact ⟨(by rw [h1]; rfl), H3.noneL⟩
     · refine WL.opN rfl rfl rfl rfl (WL.opN rfl rfl rfl rfl (oo (d_pick rfl rfl (dc (W.iff rfl (sc (W.seq (W.region (mv rfl (oo (d_rem rfl rfl (by omega) (ag rfl (dc ?_)))))))))))))
       refine W.ct (B := [(3, _), (2, _), (0, _)]) (R := []) [3, 2, 0] 0 rfl H0 rfl (fun B R L Γ' w' => ∃ last : Int, Γ' = (4, .int .i64 last) :: B ∧ UpG w L w' (R) ∧ (last = (if n.tmod 10 < 0 then -(n.tmod 10) else n.tmod 10))) ?_ ?_
       · refine W.seq ?_
         have hst : n.tmod 10 ≤ 9 ∧ -9 ≤ n.tmod 10 := tmod_range n
         refine W.region (mv rfl (oo (d_cmp _ rfl rfl rfl (dc ?_))))
         refine W.ite rfl (fun c16 => ?_) (fun c16 => ?_)
         · refine W.region (mv rfl (oo (d_neg rfl (by omega) (by omega) (ag rfl (WL.done ?_)))))
           exact X.cu [4, 3, 2, 0] ⟨-(n.tmod 10), rfl, H0, (by first | (rw [if_pos c16]) | (rw [if_neg c16]))⟩ rfl
         · refine W.skip ?_
           exact X.cu [4, 3, 2, 0] ⟨n.tmod 10, rfl, H0, (by first | (rw [if_pos c16]) | (rw [if_neg c16]))⟩ rfl
       rintro Γ2 w4 ⟨last_1, rfl, H4, hl⟩
       refine W.seq ?_
       have hst := numB_step (by intro h; first | exact c9 h.2 | exact g9 h.1) (by intro h; first | exact c12 h.2 | exact g12 h.1) hl
       obtain ⟨h1, h2, h3⟩ := hst
       have hless := quo_less (n := n) (by intro h; first | exact c9 h.2 | exact g9 h.1) (by intro h; first | exact c12 h.2 | exact g12 h.1)
       refine W.regionD mixed (by kernel_rfl) fun hok2 w5 k2 => ?_
       have H5 : UpG _ _ _ [] := H4.kept k2
       refine tm hok2 0 rfl rfl (tq hok2 1 rfl rfl (fun _ => d_quoT rfl rfl (by omega) (by omega) (by omega) ⟨rfl, rfl⟩) (tm hok2 3 rfl rfl (tm hok2 4 rfl rfl (tm hok2 5 rfl rfl (tq hok2 6 rfl rfl (fun _ => d_add rfl rfl (by omega) (by omega) ⟨rfl, rfl⟩) (tq hok2 7 rfl rfl (fun _ => d_substrN last_1 (last_1 + 1) last_1.toNat ((last_1 + 1).toNat) y9 rfl rfl rfl (.inr ⟨_, rfl⟩) (.inr ⟨_, rfl⟩) (by omega) (by omega) ⟨by omega, by omega, by omega⟩ ⟨rfl, rfl⟩) (wo hok2 2 (lo [_, _, _, _, _] rfl rfl (d_call ok30 rfl (Ret.calls (ih _ w5  hq (by omega)) fun _ w6 p2 => ?_))))))))))
       obtain ⟨rfl, u2⟩ := p2
       have H6 : UpG _ _ _ [] := H5.call u2
       refine ⟨⟨trivial, trivial, trivial, trivial, trivial, trivial⟩, (tq hok2 8 rfl rfl (fun _ => d_concat rfl rfl (by rw [ByteArray.size_extract]; omega) ⟨rfl, rfl⟩) (tq hok2 9 rfl rfl (fun _ => d_assign rfl ⟨rfl, rfl⟩) (WD.done hok2 rfl (X.then_code (W.ret (X.ret1 rfl rfl ?_))))))⟩
       exact ⟨(by rw [h1]; rfl), H6.noneL⟩
 · refine WL.opN rfl rfl rfl rfl (WL.opN rfl rfl rfl rfl (oo (d_pick rfl rfl (dc (W.iff rfl (sc (W.seq (W.seq (W.region (mv rfl (oo (d_cmp _ rfl rfl rfl (mv rfl ?_)))))))))))))
   refine WL.part 21 rfl (fun g12 => ?_) (fun g12 => ?_)
   · refine WL.opG rfl rfl rfl (d_move rfl (WL.opG rfl rfl rfl (d_cmp _ rfl rfl rfl (oo (d_pick rfl rfl (dc ?_))))))
     refine W.ite rfl (fun c12 => ?_) (fun c12 => ?_)
     · refine sr (mv rfl (mv rfl (mv rfl (oo (d_add rfl rfl (by omega) (by omega) (oo (d_substrN n (n + 1) n.toNat ((n + 1).toNat) y9 rfl rfl rfl (.inr ⟨_, rfl⟩) (.inr ⟨_, rfl⟩) (by omega) (by omega) ⟨by omega, by omega, by omega⟩ (ag rfl (dc (W.ret (X.then_ret (X.ret1 rfl rfl ?_))))))))))))
       exact ⟨(by rw [numB_pos1 g12 c12]; rfl), H0.noneL⟩
     · refine sc (W.seq (W.region (mv rfl (oo (d_rem rfl rfl (by omega) (ag rfl (dc ?_)))))))
       refine W.ct (B := [(3, _), (2, _), (0, _)]) (R := []) [3, 2, 0] 0 rfl H0 rfl (fun B R L Γ' w' => ∃ last : Int, Γ' = (4, .int .i64 last) :: B ∧ UpG w L w' (R) ∧ (last = (if n.tmod 10 < 0 then -(n.tmod 10) else n.tmod 10))) ?_ ?_
       · refine W.seq ?_
         have hst : n.tmod 10 ≤ 9 ∧ -9 ≤ n.tmod 10 := tmod_range n
         refine W.region (mv rfl (oo (d_cmp _ rfl rfl rfl (dc ?_))))
         refine W.ite rfl (fun c16 => ?_) (fun c16 => ?_)
         · refine W.region (mv rfl (oo (d_neg rfl (by omega) (by omega) (ag rfl (WL.done ?_)))))
           exact X.cu [4, 3, 2, 0] ⟨-(n.tmod 10), rfl, H0, (by first | (rw [if_pos c16]) | (rw [if_neg c16]))⟩ rfl
         · refine W.skip ?_
           exact X.cu [4, 3, 2, 0] ⟨n.tmod 10, rfl, H0, (by first | (rw [if_pos c16]) | (rw [if_neg c16]))⟩ rfl
       rintro Γ3 w7 ⟨last_2, rfl, H7, hl⟩
       refine W.seq ?_
       have hst := numB_step (by intro h; first | exact c9 h.2 | exact g9 h.1) (by intro h; first | exact c12 h.2 | exact g12 h.1) hl
       obtain ⟨h1, h2, h3⟩ := hst
       have hless := quo_less (n := n) (by intro h; first | exact c9 h.2 | exact g9 h.1) (by intro h; first | exact c12 h.2 | exact g12 h.1)
       refine W.regionD mixed (by kernel_rfl) fun hok3 w8 k3 => ?_
       have H8 : UpG _ _ _ [] := H7.kept k3
       refine tm hok3 0 rfl rfl (tq hok3 1 rfl rfl (fun _ => d_quoT rfl rfl (by omega) (by omega) (by omega) ⟨rfl, rfl⟩) (tm hok3 3 rfl rfl (tm hok3 4 rfl rfl (tm hok3 5 rfl rfl (tq hok3 6 rfl rfl (fun _ => d_add rfl rfl (by omega) (by omega) ⟨rfl, rfl⟩) (tq hok3 7 rfl rfl (fun _ => d_substrN last_2 (last_2 + 1) last_2.toNat ((last_2 + 1).toNat) y9 rfl rfl rfl (.inr ⟨_, rfl⟩) (.inr ⟨_, rfl⟩) (by omega) (by omega) ⟨by omega, by omega, by omega⟩ ⟨rfl, rfl⟩) (wo hok3 2 (lo [_, _, _, _, _] rfl rfl (d_call ok30 rfl (Ret.calls (ih _ w8  hq (by omega)) fun _ w9 p3 => ?_))))))))))
       obtain ⟨rfl, u3⟩ := p3
       have H9 : UpG _ _ _ [] := H8.call u3
       refine ⟨⟨trivial, trivial, trivial, trivial, trivial, trivial⟩, (tq hok3 8 rfl rfl (fun _ => d_concat rfl rfl (by rw [ByteArray.size_extract]; omega) ⟨rfl, rfl⟩) (tq hok3 9 rfl rfl (fun _ => d_assign rfl ⟨rfl, rfl⟩) (WD.done hok3 rfl (X.then_code (W.ret (X.ret1 rfl rfl ?_))))))⟩
       exact ⟨(by rw [h1]; rfl), H9.noneL⟩
   · refine WL.opN rfl rfl rfl rfl (WL.opN rfl rfl rfl rfl (oo (d_pick rfl rfl (dc (W.iff rfl (sc (W.seq (W.region (mv rfl (oo (d_rem rfl rfl (by omega) (ag rfl (dc ?_)))))))))))))
     refine W.ct (B := [(3, _), (2, _), (0, _)]) (R := []) [3, 2, 0] 0 rfl H0 rfl (fun B R L Γ' w' => ∃ last : Int, Γ' = (4, .int .i64 last) :: B ∧ UpG w L w' (R) ∧ (last = (if n.tmod 10 < 0 then -(n.tmod 10) else n.tmod 10))) ?_ ?_
     · refine W.seq ?_
       have hst : n.tmod 10 ≤ 9 ∧ -9 ≤ n.tmod 10 := tmod_range n
       refine W.region (mv rfl (oo (d_cmp _ rfl rfl rfl (dc ?_))))
       refine W.ite rfl (fun c16 => ?_) (fun c16 => ?_)
       · refine W.region (mv rfl (oo (d_neg rfl (by omega) (by omega) (ag rfl (WL.done ?_)))))
         exact X.cu [4, 3, 2, 0] ⟨-(n.tmod 10), rfl, H0, (by first | (rw [if_pos c16]) | (rw [if_neg c16]))⟩ rfl
       · refine W.skip ?_
         exact X.cu [4, 3, 2, 0] ⟨n.tmod 10, rfl, H0, (by first | (rw [if_pos c16]) | (rw [if_neg c16]))⟩ rfl
     rintro Γ4 w10 ⟨last_3, rfl, H10, hl⟩
     refine W.seq ?_
     have hst := numB_step (by intro h; first | exact c9 h.2 | exact g9 h.1) (by intro h; first | exact c12 h.2 | exact g12 h.1) hl
     obtain ⟨h1, h2, h3⟩ := hst
     have hless := quo_less (n := n) (by intro h; first | exact c9 h.2 | exact g9 h.1) (by intro h; first | exact c12 h.2 | exact g12 h.1)
     refine W.regionD mixed (by kernel_rfl) fun hok4 w11 k4 => ?_
     have H11 : UpG _ _ _ [] := H10.kept k4
     refine tm hok4 0 rfl rfl (tq hok4 1 rfl rfl (fun _ => d_quoT rfl rfl (by omega) (by omega) (by omega) ⟨rfl, rfl⟩) (tm hok4 3 rfl rfl (tm hok4 4 rfl rfl (tm hok4 5 rfl rfl (tq hok4 6 rfl rfl (fun _ => d_add rfl rfl (by omega) (by omega) ⟨rfl, rfl⟩) (tq hok4 7 rfl rfl (fun _ => d_substrN last_3 (last_3 + 1) last_3.toNat ((last_3 + 1).toNat) y9 rfl rfl rfl (.inr ⟨_, rfl⟩) (.inr ⟨_, rfl⟩) (by omega) (by omega) ⟨by omega, by omega, by omega⟩ ⟨rfl, rfl⟩) (wo hok4 2 (lo [_, _, _, _, _] rfl rfl (d_call ok30 rfl (Ret.calls (ih _ w11  hq (by omega)) fun _ w12 p4 => ?_))))))))))
     obtain ⟨rfl, u4⟩ := p4
     have H12 : UpG _ _ _ [] := H11.call u4
     refine ⟨⟨trivial, trivial, trivial, trivial, trivial, trivial⟩, (tq hok4 8 rfl rfl (fun _ => d_concat rfl rfl (by rw [ByteArray.size_extract]; omega) ⟨rfl, rfl⟩) (tq hok4 9 rfl rfl (fun _ => d_assign rfl ⟨rfl, rfl⟩) (WD.done hok4 rfl (X.then_code (W.ret (X.ret1 rfl rfl ?_))))))⟩
     exact ⟨(by rw [h1]; rfl), H12.noneL⟩
theorem number_any_all (N : Nat) : ∀ (n : Int) (w : World) (hn : i64ok n) (hlt : n.natAbs < N), Calls Tryd.prog 30 #[.int .i64 n] w (Ret fun v w' => v = .string (numB n) ∧ Upd w [] w' []) := by
  induction N with
  | zero => intro n w hn hlt; omega
  | succ N ih => intro n w hn hlt; exact number_any_step n N w hn hlt ih
theorem number_any (n : Int) (w : World) (hn : i64ok n) :
    Calls Tryd.prog 30 #[.int .i64 n] w (Ret fun v w' => v = .string (numB n) ∧ Upd w [] w' []) := number_any_all (n.natAbs + 1) n w hn (by omega)

set_option maxRecDepth 20000 in
theorem read41_any (s : ByteArray) (w : World) :
   Calls Tryd.prog 24 #[.string s] w (Ret fun v w' => ∃ rv : Int, ∃ rb : Bool, v = .tuple #[.int .i64 rv, .bool rb] ∧ Upd w [] w' [] ∧ (i64ok rv) ∧ (∀ n, i64ok n → s = numB n → rv = n)) := by
 refine calls_of_W (args := [.string s]) Tryd.func24 rfl rfl rfl ?_
 have H0 : UpG w [] w [] := UpG.nil w
 show W _ _ _ _ [(0, _)] w
 refine sr (ag rfl (ag rfl (dc (W.seq (W.region (ag rfl (dc (W.seq (W.region (ag rfl (dc ?_)))))))))))
 refine W.ct (B := [(4, _), (3, _), (2, _), (0, _)]) (R := []) [4, 3, 2, 0] 0 rfl H0 rfl (fun B R L Γ' w' => ∃ f : Nat, Γ' = (5, .int .i64 ((f : Nat) : Int)) :: B ∧ UpG w L w' (R) ∧ (f ≤ 1 ∧ f ≤ s.size ∧ (∀ n, i64ok n → s = numB n → f = frZ n))) ?_ ?_
 · refine sr (mv rfl (oo (d_lenStr y9 rfl (oo (d_cmp _ rfl rfl rfl (mv rfl ?_))))))
   refine WL.part 10 rfl (fun g26 => ?_) (fun g26 => ?_)
   · refine WL.opG rfl rfl rfl (d_move rfl (WL.opG rfl rfl rfl (d_idxStrN 0 y9 rfl rfl rfl (by omega) (WL.opG rfl rfl rfl (d_cmp _ rfl rfl rfl (oo (d_pick rfl rfl (dc ?_))))))))
     refine W.ite rfl (fun c26 => ?_) (fun c26 => ?_)
     · refine W.region (ag rfl (WL.done ?_))
       exact X.cu [5, 4, 3, 2, 0] ⟨1, rfl, H0, (by refine ⟨by omega, by omega, fun n _ e => ?_⟩; rw [fr_of e, if_pos ⟨by omega, by simpa using c26⟩])⟩ rfl
     · refine W.skip ?_
       exact X.cu [5, 4, 3, 2, 0] ⟨0, rfl, H0, (by refine ⟨by omega, by omega, fun n _ e => ?_⟩; rw [fr_of e, if_neg (by first | (rintro ⟨h1, h2⟩; exact c26 (by simpa using h2)) | (rintro ⟨h1, h2⟩; omega))])⟩ rfl
   · refine WL.opN rfl rfl rfl rfl (WL.opN rfl rfl rfl rfl (WL.opN rfl rfl rfl rfl (oo (d_pick rfl rfl (dc (W.iff rfl (W.skip ?_)))))))
     exact X.cu [5, 4, 3, 2, 0] ⟨0, rfl, H0, (by refine ⟨by omega, by omega, fun n _ e => ?_⟩; rw [fr_of e, if_neg (by first | (rintro ⟨h1, h2⟩; exact c26 (by simpa using h2)) | (rintro ⟨h1, h2⟩; omega))])⟩ rfl
 rintro Γ1 w1 ⟨f, rfl, H1, hf⟩
 refine W.seq (W.seq (W.region (mv rfl (oo (d_lenStr y9 rfl (oo (d_cmp _ rfl rfl rfl (dc ?_))))))))
 refine W.ite rfl (fun c29 => ?_) (fun c29 => ?_)
 · refine sr (ag rfl (ag rfl (dc (W.ret (X.then_ret (X.ret2 rfl rfl rfl ?_))))))
   exact ⟨0, false, rfl, H1.noneL, ⟨by decide, by decide⟩, (fun n hn e => by have := numB_size20 hn; rw [← e] at this; omega)⟩
 · refine sc (W.seq (W.seq (W.region (mv rfl (ag rfl (dc (W.block (W.lp (B := [(5, _), (3, _), (2, _), (0, _)]) [6, 4, 5, 3, 2, 0] (fun B R L m Γ' w' => ∃ i : Nat, ∃ acc : Int, Γ' = (6, .int .i64 ((i : Nat) : Int)) :: (4, .int .i64 acc) :: B ∧ UpG w L w' (R) ∧ (f ≤ i ∧ i ≤ s.size) ∧ (RdI s f i acc) ∧ m = s.size - i) (s.size - f) ⟨f, 0, rfl, H1, (by omega), (by exact RdI.start hf.2.2), rfl⟩ rfl ?_))))))))
   rintro m1 Γ2 w2 ⟨i, acc, rfl, H2, hi, ha, rfl⟩
   have hbr := bt_range s i
   refine W.seq (W.seq (W.region (mv rfl (mv rfl (oo (d_lenStr y9 rfl (oo (d_cmp _ rfl rfl rfl (dc ?_)))))))))
   refine W.ite rfl (fun c32 => ?_) (fun c32 => ?_)
   · refine sc (W.seq (W.block (W.seq (W.seq (W.region (mv rfl (mv rfl (oo (d_idxStrN i y9 rfl rfl rfl (by omega) (oo (d_cmp _ rfl rfl rfl (mv rfl ?_))))))))))))
     refine WL.part 29 rfl (fun g33 => ?_) (fun g33 => ?_)
     · refine WL.opN rfl rfl rfl rfl (WL.opN rfl rfl rfl rfl (WL.opN rfl rfl rfl rfl (WL.opN rfl rfl rfl rfl (oo (d_pick rfl rfl (dc (W.ift rfl (W.seq (W.region (ag rfl (ag rfl (dc (W.ret (X.then_ret (X.block_ret (X.then_ret (X.then_ret (X.block_ret (X.then_ret (X.ret2 rfl rfl rfl ?_))))))))))))))))))))
       exact ⟨0, false, rfl, H2.noneL, ⟨by decide, by decide⟩, (fun n hn e => absurd (by first | exact .inl (by omega) | exact .inr (by omega)) (ha.digit hn e (by omega) (by omega)))⟩
     · refine WL.opG rfl rfl rfl (d_move rfl (WL.opG rfl rfl rfl (d_move rfl (WL.opG rfl rfl rfl (d_idxStrN i y9 rfl rfl rfl (by omega) (WL.opG rfl rfl rfl (d_cmp _ rfl rfl rfl (oo (d_pick rfl rfl (dc ?_))))))))))
       refine W.ite rfl (fun c33 => ?_) (fun c33 => ?_)
       · refine sr (ag rfl (ag rfl (dc (W.ret (X.then_ret (X.block_ret (X.then_ret (X.then_ret (X.block_ret (X.then_ret (X.ret2 rfl rfl rfl ?_)))))))))))
         exact ⟨0, false, rfl, H2.noneL, ⟨by decide, by decide⟩, (fun n hn e => absurd (by first | exact .inl (by omega) | exact .inr (by omega)) (ha.digit hn e (by omega) (by omega)))⟩
       · refine sc (W.seq (W.region (mv rfl (oo (d_cmp _ rfl rfl rfl (dc ?_))))))
         refine W.ite rfl (fun c36 => ?_) (fun c36 => ?_)
         · refine W.region (mv rfl (oo (d_arith _ rfl rfl rfl (mv rfl (mv rfl (oo (d_idxStrN i y9 rfl rfl rfl (by omega) (oo (d_sub8 rfl rfl (by omega) (by omega) (oo (d_conv y5 y3 rfl (oo (d_arith _ rfl rfl rfl (ag rfl (WL.done (X.block_normal (X.then_code (W.region (mv rfl (oo (d_add rfl rfl (by omega) (by omega) (ag rfl (WL.done ?_)))))))))))))))))))))))
           exact X.nx [6, 4, 5, 3, 2, 0] (s.size - (i + 1)) (by omega) ⟨i + 1, IntKind.i64.wrap ((IntKind.i64.wrap (acc * 10)) - (IntKind.i64.wrap ((bt s i) - 48))), rfl, H2, (by first | assumption | omega | simp), (by first | exact ha.minus (by omega) (by omega) (by omega) (by omega) (by omega) | exact ha.plus (by omega) (by omega) (by omega) (by omega) (by omega)), rfl⟩ rfl
         · refine W.region (mv rfl (oo (d_arith _ rfl rfl rfl (mv rfl (mv rfl (oo (d_idxStrN i y9 rfl rfl rfl (by omega) (oo (d_sub8 rfl rfl (by omega) (by omega) (oo (d_conv y5 y3 rfl (oo (d_arith _ rfl rfl rfl (ag rfl (WL.done (X.block_normal (X.then_code (W.region (mv rfl (oo (d_add rfl rfl (by omega) (by omega) (ag rfl (WL.done ?_)))))))))))))))))))))))
           exact X.nx [6, 4, 5, 3, 2, 0] (s.size - (i + 1)) (by omega) ⟨i + 1, IntKind.i64.wrap ((IntKind.i64.wrap (acc * 10)) + (IntKind.i64.wrap ((bt s i) - 48))), rfl, H2, (by first | assumption | omega | simp), (by first | exact ha.minus (by omega) (by omega) (by omega) (by omega) (by omega) | exact ha.plus (by omega) (by omega) (by omega) (by omega) (by omega)), rfl⟩ rfl
   · refine W.exit (X.then_exit (X.then_exit (X.block_exit (X.then_code (W.seq (W.region (mv rfl (mv rfl (oo (d_lenStr y9 rfl (mv rfl (oo (d_cmp _ rfl rfl rfl (mv rfl ?_))))))))))))))
     refine WL.part 58 rfl (fun g42 => ?_) (fun g42 => ?_)
     · refine WL.opG rfl rfl rfl (d_move rfl (WL.opG rfl rfl rfl (d_call ok30 rfl (Ret.calls (number_any _ w2  ha.1) fun _ w3 p1 => ?_))))
       obtain ⟨rfl, u1⟩ := p1
       have H3 : UpG _ _ _ [] := H2.call u1
       refine WL.opG rfl rfl rfl (d_move rfl (WL.opG rfl rfl rfl (d_streq rfl rfl (oo (d_pick rfl rfl (ag rfl (ag rfl (dc (W.ret (X.ret2 rfl rfl rfl ?_))))))))))
       exact ⟨acc, decide ((numB acc) = s), rfl, H3.noneL, ha.1, (fun n hn e => ha.fin (by omega) hn e)⟩
     · refine WL.opN rfl rfl rfl rfl (WL.opN rfl rfl rfl rfl (WL.opN rfl rfl rfl rfl (WL.opN rfl rfl rfl rfl (oo (d_pick rfl rfl (ag rfl (ag rfl (dc (W.ret (X.ret2 rfl rfl rfl ?_))))))))))
       exact ⟨acc, false, rfl, H2.noneL, ha.1, (fun n hn e => ha.fin (by omega) hn e)⟩
end Go.Proofs.YtnjjjmpdikpjaabDoor


/- Digits of bytes, and bytes out of digits, as lists. Conditions: those of each theorem. -/
namespace Go.Sx
set_option linter.unusedVariables false
set_option linter.unusedSimpArgs false
def dgU (k : Nat) : UInt8 := digs.data.toList.getD k 0
def hexL (l : List UInt8) : List UInt8 := l.flatMap fun b => [dgU (b.toNat / 16), dgU (b.toNat % 16)]
def hexS (t : ByteArray) : ByteArray := hexT t t.size
theorem len_size (t : ByteArray) : t.data.toList.length = t.size := by rw [Array.length_toList]; rfl
theorem hexL_app (a b : List UInt8) : hexL (a ++ b) = hexL a ++ hexL b := by simp [hexL]
theorem hexL_len (l : List UInt8) : (hexL l).length = 2 * l.length := by
  induction l with
  | nil => rfl
  | cons x l ih => simp [hexL] at ih ⊢; omega
theorem digs_ext : ∀ k : Fin 16, (digs.extract k.val (k.val + 1)).data.toList = [dgU k.val] := by decide +kernel
theorem dgU_inj : ∀ a b : Fin 16, dgU a.val = dgU b.val → a = b := by decide +kernel
theorem bn_data (s : ByteArray) (i : Nat) (h : i < s.data.toList.length) : bn s i = (s.data.toList[i]).toNat := by
  unfold bn; rw [List.getD_eq_getElem?_getD, List.getElem?_eq_getElem h]; rfl
theorem hexT_data (t : ByteArray) : ∀ i, i ≤ t.size → (hexT t i).data.toList = hexL (t.data.toList.take i)
  | 0, _ => rfl
  | i + 1, h => by
    have hl : i < t.data.toList.length := by rw [len_size]; omega
    have hb := bn_lt t i
    rw [List.take_add_one, List.getElem?_eq_getElem hl, hexL_app, ← hexT_data t i (by omega), hexT]
    have e1 := digs_ext ⟨bn t i / 16, by omega⟩
    have e2 := digs_ext ⟨bn t i % 16, by omega⟩
    simp only [ByteArray.data_append, Array.toList_append, List.append_assoc]
    congr 1
    have e3 : hexL (some t.data.toList[i]).toList = [dgU (bn t i / 16)] ++ [dgU (bn t i % 16)] := by
      rw [bn_data t i hl]; simp [hexL]
    rw [e3]
    congr 1
theorem hexS_data (t : ByteArray) : (hexS t).data.toList = hexL t.data.toList := by
  unfold hexS
  rw [hexT_data t t.size (Nat.le_refl _), List.take_of_length_le (by rw [len_size]; omega)]
theorem hexS_size (t : ByteArray) : (hexS t).size = 2 * t.size := hexT_size t t.size
theorem pair_inj {a b : UInt8} (h : [dgU (a.toNat / 16), dgU (a.toNat % 16)] = [dgU (b.toNat / 16), dgU (b.toNat % 16)]) : a = b := by
  have ha := a.toNat_lt
  have hb := b.toNat_lt
  simp only [List.cons.injEq, and_true] at h
  have e1 := Fin.val_eq_of_eq (dgU_inj ⟨a.toNat / 16, by omega⟩ ⟨b.toNat / 16, by omega⟩ h.1)
  have e2 := Fin.val_eq_of_eq (dgU_inj ⟨a.toNat % 16, by omega⟩ ⟨b.toNat % 16, by omega⟩ h.2)
  simp only at e1 e2
  exact UInt8.toNat_inj.1 (by omega)
theorem hexL_inj : ∀ {a b : List UInt8}, hexL a = hexL b → a = b
  | [], [], _ => rfl
  | [], y :: b, h => by simp [hexL] at h
  | x :: a, [], h => by simp [hexL] at h
  | x :: a, y :: b, h => by
    have h' : [dgU (x.toNat / 16), dgU (x.toNat % 16)] ++ hexL a = [dgU (y.toNat / 16), dgU (y.toNat % 16)] ++ hexL b := by simpa [hexL] using h
    obtain ⟨h1, h2⟩ := List.append_inj h' (by simp)
    rw [pair_inj h1, hexL_inj h2]
theorem hexS_inj {a b : ByteArray} (h : hexS a = hexS b) : a = b := by
  have : hexL a.data.toList = hexL b.data.toList := by rw [← hexS_data, ← hexS_data, h]
  exact ByteArray.ext (Array.ext' (hexL_inj this))
/-- The two digits of one of the bytes. -/
theorem hexL_at (l : List UInt8) {k : Nat} (h : k < l.length) : ((hexL l).drop (2 * k)).take 2 = [dgU (l[k].toNat / 16), dgU (l[k].toNat % 16)] := by
  have e : l = l.take k ++ l[k] :: l.drop (k + 1) := by simp
  have e2 : hexL l = hexL (l.take k) ++ ([dgU (l[k].toNat / 16), dgU (l[k].toNat % 16)] ++ hexL (l.drop (k + 1))) := by
    conv => lhs; rw [e]
    rw [hexL_app]; rfl
  have hl : (hexL (l.take k)).length = 2 * k := by rw [hexL_len, List.length_take]; omega
  rw [e2, ← hl, List.drop_left]
  simp
theorem ext_data (s : ByteArray) (a b : Nat) : (s.extract a b).data.toList = (s.data.toList.drop a).take (b - a) := by
  simp [ByteArray.data_extract, Array.toList_extract, List.extract]
/-! ### The library's way: a digit's place -/
theorem ix_neg : ∀ {l : List UInt8} {c : UInt8}, Lib.indexByte l c < 0 → c ∉ l
  | [], _, _ => by simp
  | b :: l, c, h => by
    unfold Lib.indexByte at h
    split at h
    · omega
    · rename_i hb
      have hb' : ¬ b = c := by simpa using hb
      split at h
      · rename_i h1
        have h1' : Lib.indexByte l c = -1 := by simpa using h1
        have := ix_neg (l := l) (c := c) (by omega)
        simp only [List.mem_cons, not_or]; exact ⟨fun e => hb' e.symm, this⟩
      · have := ix_neg (l := l) (c := c) (by omega)
        simp only [List.mem_cons, not_or]; exact ⟨fun e => hb' e.symm, this⟩
theorem ix_ge : ∀ (l : List UInt8) (c : UInt8), -1 ≤ Lib.indexByte l c
  | [], _ => by simp [Lib.indexByte]
  | b :: l, c => by
    have := ix_ge l c
    unfold Lib.indexByte
    split
    · omega
    · split <;> omega
theorem ix_pos : ∀ {l : List UInt8} {c : UInt8}, 0 ≤ Lib.indexByte l c → (Lib.indexByte l c).toNat < l.length ∧ l.getD (Lib.indexByte l c).toNat 0 = c
  | [], _, h => by simp [Lib.indexByte] at h
  | b :: l, c, h => by
    unfold Lib.indexByte at h ⊢
    split at h
    · rename_i hb
      rw [if_pos hb]; simpa using hb
    · rename_i hb
      rw [if_neg hb]
      split at h
      · omega
      · rename_i h1
        rw [if_neg h1]
        have hge := ix_ge l c
        have h1' : ¬ Lib.indexByte l c = -1 := by simpa using h1
        obtain ⟨h2, h3⟩ := ix_pos (l := l) (c := c) (by omega)
        rw [show (Lib.indexByte l c + 1).toNat = (Lib.indexByte l c).toNat + 1 by omega]
        exact ⟨by simp; omega, by simpa using h3⟩
/-- A digit's place, or less than nothing. -/
def ixD (z : Int) : Int := Lib.indexByte (⟨#[48, 49, 50, 51, 52, 53, 54, 55, 56, 57, 97, 98, 99, 100, 101, 102]⟩ : ByteArray).data.toList z.toNat.toUInt8
theorem bt_u8 (s : ByteArray) {i : Nat} (h : i < s.data.toList.length) : (bt s i).toNat.toUInt8 = s.data.toList[i] := by
  unfold bt; rw [List.getD_eq_getElem?_getD, List.getElem?_eq_getElem h]
  simp
theorem ixD_neg {s : ByteArray} {i : Nat} (h : i < s.data.toList.length) (hx : ixD (bt s i) < 0) : s.data.toList[i] ∉ digs.data.toList := by
  unfold ixD at hx; rw [bt_u8 s h] at hx
  exact ix_neg hx
theorem ixD_pos {s : ByteArray} {i : Nat} (h : i < s.data.toList.length) (hx : ¬ ixD (bt s i) < 0) : (ixD (bt s i)).toNat < 16 ∧ dgU (ixD (bt s i)).toNat = s.data.toList[i] := by
  unfold ixD at hx ⊢; rw [bt_u8 s h] at hx ⊢
  exact ix_pos (Int.not_lt.1 hx)
theorem ixD_lo (z : Int) : -1 ≤ ixD z := ix_ge _ _
theorem dgU_mem {k : Nat} (h : k < 16) : dgU k ∈ digs.data.toList := by
  have hl : digs.data.toList.length = 16 := rfl
  unfold dgU
  rw [List.getD_eq_getElem?_getD, List.getElem?_eq_getElem (by omega)]
  exact List.getElem_mem _
theorem hexL_mem {l : List UInt8} {c : UInt8} (h : c ∈ hexL l) : c ∈ digs.data.toList := by
  simp only [hexL, List.mem_flatMap, List.mem_cons, List.not_mem_nil, or_false] at h
  obtain ⟨b, _, rfl | rfl⟩ := h
  · exact dgU_mem (by have := b.toNat_lt; omega)
  · exact dgU_mem (Nat.mod_lt _ (by decide))
/-- What has been put together of the first digits. -/
structure AbI (s : ByteArray) (o : List Int) (i : Nat) : Prop where
  two : i = 2 * o.length
  hx : hexL (o.map fun n => UInt8.ofNat n.toNat) = s.data.toList.take i
theorem AbI.start (s : ByteArray) : AbI s [] 0 := ⟨rfl, rfl⟩
theorem AbI.next {s : ByteArray} {o : List Int} {i : Nat} (h : AbI s o i) (hi : i + 1 < s.size) (h1 : ¬ ixD (bt s i) < 0) (h2 : ¬ ixD (bt s (i + 1)) < 0) :
    AbI s (o ++ [(((ixD (bt s i)).toNat * 16 + (ixD (bt s (i + 1))).toNat : Nat) : Int)]) (i + 2) := by
  have hs := len_size s
  obtain ⟨a1, a2⟩ := ixD_pos (by omega) h1
  obtain ⟨b1, b2⟩ := ixD_pos (i := i + 1) (by omega) h2
  refine ⟨by simp; have := h.two; omega, ?_⟩
  have hb : (UInt8.ofNat ((ixD (bt s i)).toNat * 16 + (ixD (bt s (i + 1))).toNat)).toNat = (ixD (bt s i)).toNat * 16 + (ixD (bt s (i + 1))).toNat := by rw [UInt8.toNat_ofNat']; omega
  rw [List.map_append, hexL_app, h.hx]
  have e : hexL ([(((ixD (bt s i)).toNat * 16 + (ixD (bt s (i + 1))).toNat : Nat) : Int)].map fun n => UInt8.ofNat n.toNat) = [s.data.toList[i]'(by omega), s.data.toList[i + 1]'(by omega)] := by
    simp only [List.map_cons, List.map_nil, Int.toNat_natCast, hexL, List.flatMap_cons, List.flatMap_nil, List.append_nil, hb]
    rw [← a2, ← b2]
    congr 2
    · omega
    · congr 1; omega
  rw [e, List.take_add_one, List.take_add_one, List.getElem?_eq_getElem (by omega), List.getElem?_eq_getElem (by omega)]
  simp
theorem AbI.fin {s : ByteArray} {o : List Int} {i : Nat} (h : AbI s o i) (hi : i = s.size) : hexS (strOfNums o) = s := by
  apply ByteArray.ext; apply Array.ext'
  rw [hexS_data, strOfNums_data, h.hx, hi, List.take_of_length_le (by rw [len_size]; omega)]
theorem no_hex {s : ByteArray} {i : Nat} (hi : i < s.size) (h : ixD (bt s i) < 0) (t : ByteArray) : hexS t ≠ s := fun e => by
  have hs := len_size s
  have h1 := ixD_neg (i := i) (by omega) h
  have h2 : s.data.toList[i]'(by omega) ∈ hexL t.data.toList := by
    have e2 := hexS_data t
    rw [e] at e2
    rw [← e2]; exact List.getElem_mem _
  exact h1 (hexL_mem h2)
/-! ### The document's way: all bytes tried -/
structure RbI (s : ByteArray) (o : List Int) (k : Nat) : Prop where
  len : o.length ≤ 256 * k
  is : ∀ t, s = hexS t → k ≤ t.size ∧ o = (bytesL t).take k
theorem RbI.start (s : ByteArray) : RbI s [] 0 := ⟨by simp, fun t _ => ⟨Nat.zero_le _, by simp⟩⟩
structure RbJ (s : ByteArray) (o : List Int) (k b : Nat) : Prop where
  len : o.length ≤ 256 * k + b
  is : ∀ t, s = hexS t → k < t.size ∧ o = (bytesL t).take k ++ (if bt t k < ((b : Nat) : Int) then [bt t k] else [])
theorem RbI.open {s : ByteArray} {o : List Int} {k : Nat} (h : RbI s o k) (hk : 2 * k + 1 < s.size) : RbJ s o k 0 :=
  ⟨h.len, fun t e => ⟨by have := hexS_size t; rw [← e] at this; omega, by rw [if_neg (by have := bt_range t k; omega)]; simpa using (h.is t e).2⟩⟩
theorem byte_one {b : Nat} (hb : b < 256) : (hexT (strOfNums [((b : Nat) : Int)]) (strOfNums [((b : Nat) : Int)]).size).data.toList = [dgU (b / 16), dgU (b % 16)] := by
  have := hexS_data (strOfNums [((b : Nat) : Int)])
  unfold hexS at this
  rw [this, strOfNums_data]
  have e : (UInt8.ofNat b).toNat = b := by rw [UInt8.toNat_ofNat']; omega
  simp [hexL, e]
theorem RbJ.cond {s : ByteArray} {o : List Int} {k b : Nat} (h : RbJ s o k b) (hb : b < 256) {t : ByteArray} (e : s = hexS t) :
    hexT (strOfNums [((b : Nat) : Int)]) (strOfNums [((b : Nat) : Int)]).size = s.extract (2 * k) (2 * k + 2) ↔ bt t k = ((b : Nat) : Int) := by
  have hk := (h.is t e).1
  have hl : k < t.data.toList.length := by rw [len_size]; omega
  have h2 : (s.extract (2 * k) (2 * k + 2)).data.toList = [dgU ((t.data.toList[k]).toNat / 16), dgU ((t.data.toList[k]).toNat % 16)] := by
    rw [ext_data, e, hexS_data, show 2 * k + 2 - 2 * k = 2 by omega, hexL_at _ hl]
  have h3 : bt t k = (((t.data.toList[k]).toNat : Nat) : Int) := by
    unfold bt; rw [List.getD_eq_getElem?_getD, List.getElem?_eq_getElem hl]; rfl
  have hu : (UInt8.ofNat b).toNat = b := by rw [UInt8.toNat_ofNat']; omega
  constructor
  · intro h4
    have h5 := byte_one hb
    rw [h4, h2] at h5
    have h6 : t.data.toList[k] = UInt8.ofNat b := pair_inj (by rw [hu]; exact h5)
    rw [h3, h6, hu]
  · intro h4
    have h6 : (t.data.toList[k]).toNat = b := by omega
    apply ByteArray.ext; apply Array.ext'
    rw [byte_one hb, h2, h6]
theorem RbJ.yes {s : ByteArray} {o : List Int} {k b : Nat} (h : RbJ s o k b) (hb : b < 256) (hc : hexT (strOfNums [((b : Nat) : Int)]) (strOfNums [((b : Nat) : Int)]).size = s.extract (2 * k) (2 * k + 2)) : RbJ s (o ++ [((b : Nat) : Int)]) k (b + 1) := by
  refine ⟨by have := h.len; simp; omega, fun t e => ?_⟩
  obtain ⟨h1, h2⟩ := h.is t e
  have h3 := (h.cond hb e).1 hc
  refine ⟨h1, ?_⟩
  rw [h2, if_neg (by omega), if_pos (by omega), h3]; simp
theorem RbJ.no {s : ByteArray} {o : List Int} {k b : Nat} (h : RbJ s o k b) (hb : b < 256) (hc : ¬ hexT (strOfNums [((b : Nat) : Int)]) (strOfNums [((b : Nat) : Int)]).size = s.extract (2 * k) (2 * k + 2)) : RbJ s o k (b + 1) := by
  refine ⟨by have := h.len; omega, fun t e => ?_⟩
  obtain ⟨h1, h2⟩ := h.is t e
  have h3 : ¬ bt t k = ((b : Nat) : Int) := fun h9 => hc ((h.cond hb e).2 h9)
  refine ⟨h1, ?_⟩
  rw [h2]
  by_cases h4 : bt t k < ((b : Nat) : Int)
  · rw [if_pos h4, if_pos (by omega)]
  · rw [if_neg h4, if_neg (by omega)]
theorem RbJ.close {s : ByteArray} {o : List Int} {k b : Nat} (h : RbJ s o k b) (hb : ¬ b < 256) (hb2 : b ≤ 256) : RbI s o (k + 1) := by
  refine ⟨by have := h.len; omega, fun t e => ?_⟩
  obtain ⟨h1, h2⟩ := h.is t e
  refine ⟨h1, ?_⟩
  have hr := bt_range t k
  rw [h2, if_pos (by omega)]
  have hl := bytesL_len t
  have h9 := bytesL_get t k h1
  rw [List.take_add_one, List.getElem?_eq_getElem (by omega)]
  rw [List.getD_eq_getElem?_getD, List.getElem?_eq_getElem (by omega)] at h9
  simp only [Option.toList_some]
  rw [← h9]; rfl
theorem str_bytes (t : ByteArray) : strOfNums (bytesL t) = t := by
  apply ByteArray.ext; apply Array.ext'
  rw [strOfNums_data]
  apply List.ext_getElem?
  intro j
  simp only [bytesL, List.map_map, List.getElem?_map]
  by_cases h : j < t.size
  · rw [List.getElem?_range h, List.getElem?_eq_getElem (by simpa using h)]
    simp [bt, List.getD_eq_getElem?_getD, h]
  · rw [List.getElem?_eq_none (by simpa using h), List.getElem?_eq_none (by simpa using h)]; rfl
theorem RbI.fin {s : ByteArray} {o : List Int} {k : Nat} (h : RbI s o k) (hk : ¬ 2 * k + 1 < s.size) {t : ByteArray} (e : s = hexS t) : strOfNums o = t := by
  obtain ⟨h1, h2⟩ := h.is t e
  have hs := hexS_size t
  rw [← e] at hs
  have hl := bytesL_len t
  rw [h2, List.take_of_length_le (by omega), str_bytes]
end Go.Sx


/- Texts cut at a byte, and put together again. Conditions: those of each theorem. -/
namespace Go.Sx
set_option linter.unusedVariables false
set_option linter.unusedSimpArgs false
def consH (b : UInt8) : List (List UInt8) → List (List UInt8)
  | [] => [[b]]
  | h :: t => (b :: h) :: t
/-- The pieces between a byte's places. -/
def spl (c : UInt8) : List UInt8 → List (List UInt8)
  | [] => [[]]
  | b :: l => if b = c then [] :: spl c l else consH b (spl c l)
theorem spl_ne (c : UInt8) : ∀ l, spl c l ≠ []
  | [] => by simp [spl]
  | b :: l => by
    unfold spl
    split
    · simp
    · cases spl c l <;> simp [consH]
theorem splitK_spl (c : UInt8) : ∀ l : List UInt8, Lib.splitK [c] 0 (l.count c) l = spl c l
  | [] => rfl
  | b :: l => by
    have ih := splitK_spl c l
    by_cases h : b = c
    · subst h
      rw [List.count_cons_self]
      have hi : Lib.index (b :: l) [b] = 0 := by unfold Lib.index; rw [if_pos (by simp)]
      unfold Lib.splitK
      rw [hi]
      simp only [spl, if_pos]
      rw [← ih]; simp
    · rw [List.count_cons_of_ne h]
      have hi : Lib.index (b :: l) [c] = if Lib.index l [c] == -1 then -1 else Lib.index l [c] + 1 := by
        conv => lhs; unfold Lib.index
        rw [if_neg (by simp; exact fun e => h e.symm)]
      rw [show spl c (b :: l) = consH b (spl c l) by simp [spl, h], ← ih]
      cases hk : l.count c with
      | zero => rfl
      | succ k =>
        have hge := Lib.index_ge l [c]
        unfold Lib.splitK
        rw [hi]
        by_cases h1 : Lib.index l [c] = -1
        · rw [h1]; rfl
        · have g1 : ¬ (Lib.index l [c] == -1) = true := by simpa using h1
          have g2 : ¬ (Lib.index l [c] + 1 == -1) = true := by simp; omega
          have e1 : (Lib.index l [c] + 1).toNat = (Lib.index l [c]).toNat + 1 := by omega
          simp only [if_neg g1, if_neg g2, e1]
          simp [consH, Nat.add_right_comm]
theorem ba_inj {a b : ByteArray} (h : a.data.toList = b.data.toList) : a = b := ByteArray.ext (Array.ext' h)
theorem map_data_inj : ∀ {a b : List ByteArray}, a.map (·.data.toList) = b.map (·.data.toList) → a = b
  | [], [], _ => rfl
  | [], y :: b, h => by simp at h
  | x :: a, [], h => by simp at h
  | x :: a, y :: b, h => by
    simp only [List.map_cons, List.cons.injEq] at h
    rw [ba_inj h.1, map_data_inj h.2]
/-- The pieces ahead of a place, and where the last one begins. -/
def cutTo (c : Int) (s : ByteArray) : Nat → List ByteArray × Nat
  | 0 => ([], 0)
  | i + 1 => if bt s i = c then ((cutTo c s i).1 ++ [s.extract (cutTo c s i).2 i], i + 1) else cutTo c s i
def cutAll (c : Int) (s : ByteArray) : List ByteArray := (cutTo c s s.size).1 ++ [s.extract (cutTo c s s.size).2 s.size]
theorem words_cut (s : ByteArray) : ∀ i, wordsTo s i = cutTo 32 s i
  | 0 => rfl
  | i + 1 => by simp only [wordsTo, cutTo, words_cut s i]
theorem wordsR_cut (s : ByteArray) : wordsR s = cutAll 32 s := by unfold wordsR cutAll; rw [words_cut]
theorem cutTo_yes {c : Int} {s : ByteArray} {i f : Nat} {o : List ByteArray} (h : cutTo c s i = (o, f)) (hb : bt s i = c) : cutTo c s (i + 1) = (o ++ [s.extract f i], i + 1) := by rw [cutTo, if_pos hb, h]
theorem cutTo_no {c : Int} {s : ByteArray} {i f : Nat} {o : List ByteArray} (h : cutTo c s i = (o, f)) (hb : ¬ bt s i = c) : cutTo c s (i + 1) = (o, f) := by rw [cutTo, if_neg hb, h]
/-- The last piece grows by a byte, or a new one begins. -/
theorem spl_snoc (c b : UInt8) : ∀ (l : List UInt8) (p : List (List UInt8)) (q : List UInt8), spl c l = p ++ [q] → spl c (l ++ [b]) = if b = c then p ++ [q, []] else p ++ [q ++ [b]]
  | [], p, q, h => by
    have : p = [] ∧ q = [] := by
      cases p with
      | nil => simp [spl] at h; exact ⟨rfl, h⟩
      | cons x p => simp [spl] at h
    obtain ⟨rfl, rfl⟩ := this
    simp only [List.nil_append, spl]
    split <;> rfl
  | x :: l, p, q, h => by
    rw [List.cons_append]
    unfold spl at h ⊢
    by_cases hx : x = c
    · rw [if_pos hx] at h ⊢
      cases p with
      | nil => simp at h; exact absurd h.2 (spl_ne c l)
      | cons y p =>
        simp only [List.cons_append, List.cons.injEq] at h
        obtain ⟨rfl, h⟩ := h
        rw [spl_snoc c b l p q h]
        split <;> simp
    · rw [if_neg hx] at h ⊢
      cases hs : spl c l with
      | nil => exact absurd hs (spl_ne c l)
      | cons y r =>
        rw [hs] at h
        simp only [consH] at h
        cases p with
        | nil =>
          simp only [List.nil_append, List.cons.injEq] at h
          obtain ⟨rfl, rfl⟩ := h
          rw [spl_snoc c b l [] y (by rw [hs]; rfl)]
          split <;> simp [consH]
        | cons z p =>
          simp only [List.cons_append, List.cons.injEq] at h
          obtain ⟨rfl, rfl⟩ := h
          rw [spl_snoc c b l (y :: p) q (by rw [hs]; rfl)]
          split <;> simp [consH]
theorem take_list {s : ByteArray} {i : Nat} (h : i < s.size) : s.data.toList.take (i + 1) = s.data.toList.take i ++ [s.data.toList.getD i 0] := take_snoc _ _ (by rw [len_size]; exact h)
theorem cutTo_spl (c : UInt8) (s : ByteArray) : ∀ (i : Nat), i ≤ s.size → (cutTo ((c.toNat : Nat) : Int) s i).2 ≤ i ∧ spl c (s.data.toList.take i) = (cutTo ((c.toNat : Nat) : Int) s i).1.map (·.data.toList) ++ [(s.data.toList.take i).drop (cutTo ((c.toNat : Nat) : Int) s i).2]
  | 0, _ => ⟨Nat.le_refl _, by simp [cutTo, spl]⟩
  | i + 1, h => by
    obtain ⟨h1, h2⟩ := cutTo_spl c s i (by omega)
    have hs := len_size s
    have hb : (s.data.toList.getD i 0 = c) ↔ bt s i = ((c.toNat : Nat) : Int) := by
      unfold bt
      constructor
      · intro e; rw [e]
      · intro e; exact UInt8.toNat_inj.1 (by omega)
    rw [take_list (by omega), spl_snoc c _ _ _ _ h2, cutTo]
    by_cases hc : s.data.toList.getD i 0 = c
    · rw [if_pos hc, if_pos (hb.1 hc)]
      refine ⟨Nat.le_refl _, ?_⟩
      have e1 : (s.extract (cutTo ((c.toNat : Nat) : Int) s i).2 i).data.toList = (s.data.toList.take i).drop (cutTo ((c.toNat : Nat) : Int) s i).2 := by rw [ext_data, List.drop_take]
      have e2 : (s.data.toList.take i ++ [s.data.toList.getD i 0]).drop (i + 1) = [] := by
        apply List.drop_eq_nil_of_le; simp; omega
      rw [e2, List.map_append, List.map_cons, List.map_nil, e1]
      simp
    · rw [if_neg hc, if_neg (fun e => hc (hb.2 e))]
      refine ⟨by omega, ?_⟩
      rw [List.drop_append_of_le_length (by rw [List.length_take]; omega)]
theorem cutAll_spl (c : UInt8) (s : ByteArray) : (cutAll ((c.toNat : Nat) : Int) s).map (·.data.toList) = spl c s.data.toList := by
  obtain ⟨h1, h2⟩ := cutTo_spl c s s.size (Nat.le_refl _)
  have hs := len_size s
  rw [List.take_of_length_le (by omega)] at h2
  rw [h2]
  unfold cutAll
  rw [List.map_append, List.map_cons, List.map_nil, ext_data]
  congr 1
  rw [List.take_of_length_le (by simp)]
theorem splitB_cut (c : UInt8) (s : ByteArray) : Lib.splitB ⟨#[c]⟩ 0 (Lib.countB s ⟨#[c]⟩) s = cutAll ((c.toNat : Nat) : Int) s := by
  apply map_data_inj
  rw [Lib.splitB_data, cutAll_spl, ← splitK_spl]
  have : Lib.countB s ⟨#[c]⟩ = s.data.toList.count c := Lib.count_one c _
  rw [this]
/-! ### Put together -/
/-- Words with a blank between them. -/
def joinW (l : List ByteArray) : ByteArray := ⟨(Lib.join (l.map (·.data.toList)) [32]).toArray⟩
theorem joinW_one (x : ByteArray) : joinW [x] = x := by
  apply ba_inj; simp [joinW, Lib.join_one]
theorem joinTail_app (sep : List UInt8) (a b : List (List UInt8)) : Lib.joinTail sep (a ++ b) = Lib.joinTail sep a ++ Lib.joinTail sep b := by simp [Lib.joinTail]
theorem joinW_snoc (l : List ByteArray) (x : ByteArray) (h : l ≠ []) : joinW (l ++ [x]) = joinW l ++ ⟨#[32]⟩ ++ x := by
  cases l with
  | nil => exact absurd rfl h
  | cons y r =>
    apply ba_inj
    simp [joinW, Lib.join_cons, joinTail_app, Lib.joinTail]
theorem joinW_data (l : List ByteArray) : (joinW l).data.toList = Lib.join (l.map (·.data.toList)) [32] := by simp [joinW]
theorem join_len (m : Nat) : ∀ (l : List ByteArray), (∀ w, w ∈ l → w.size ≤ m) → (Lib.join (l.map (·.data.toList)) [32]).length ≤ l.length * (m + 1)
  | [], _ => by simp [Lib.join_nil]
  | x :: r, h => by
    have hx := h x (by simp)
    have key : ∀ r : List ByteArray, (∀ w, w ∈ r → w.size ≤ m) → (Lib.joinTail [32] (r.map (·.data.toList))).length ≤ r.length * (m + 1) := by
      intro r
      induction r with
      | nil => intro _; simp [Lib.joinTail]
      | cons y r ih =>
        intro hr
        have h1 := ih fun w hw => hr w (by simp [hw])
        have h2 := hr y (by simp)
        have h3 := len_size y
        simp only [Lib.joinTail, List.map_cons, List.flatten_cons, List.length_append, List.length_cons, List.length_nil] at h1 ⊢
        rw [Nat.succ_mul]; omega
    have h1 := key r fun w hw => h w (by simp [hw])
    have h3 := len_size x
    simp only [List.map_cons, Lib.join_cons, List.length_append, List.length_cons]
    rw [Nat.succ_mul]; omega
theorem spl_no (c : UInt8) : ∀ {l : List UInt8}, c ∉ l → spl c l = [l]
  | [], _ => rfl
  | b :: l, h => by
    simp only [List.mem_cons, not_or] at h
    have hb : ¬ b = c := fun e => h.1 e.symm
    simp only [spl, if_neg hb, spl_no c h.2, consH]
theorem spl_app (c : UInt8) (m : List UInt8) : ∀ {l : List UInt8}, c ∉ l → spl c (l ++ c :: m) = l :: spl c m
  | [], _ => by simp [spl]
  | b :: l, h => by
    simp only [List.mem_cons, not_or] at h
    have hb : ¬ b = c := fun e => h.1 e.symm
    simp only [List.cons_append, spl, if_neg hb, spl_app c m h.2, consH]
theorem spl_join (c : UInt8) : ∀ (ws : List (List UInt8)), ws ≠ [] → (∀ w, w ∈ ws → c ∉ w) → spl c (Lib.join ws [c]) = ws
  | [], h, _ => absurd rfl h
  | [x], _, h => by rw [Lib.join_one]; exact spl_no c (h x (by simp))
  | x :: y :: r, _, h => by
    have ih := spl_join c (y :: r) (by simp) fun w hw => h w (by simp [hw])
    have e : Lib.join (x :: y :: r) [c] = x ++ c :: Lib.join (y :: r) [c] := by
      rw [Lib.join_cons, Lib.join_cons]; simp [Lib.joinTail]
    rw [e, spl_app c _ (h x (by simp)), ih]
theorem join_spl (c : UInt8) : ∀ l : List UInt8, Lib.join (spl c l) [c] = l
  | [] => rfl
  | b :: l => by
    have ih := join_spl c l
    unfold spl
    cases hs : spl c l with
    | nil => exact absurd hs (spl_ne c l)
    | cons y r =>
      rw [hs] at ih
      split
      · rename_i h
        rw [Lib.join_cons] at ih ⊢
        simp only [Lib.joinTail, List.map_cons, List.flatten_cons] at ih ⊢
        simp [← ih, h]
      · simp only [consH]
        rw [Lib.join_cons] at ih ⊢
        simp [← ih]
/-- What is put together is cut into the same words. -/
theorem cut_join (ws : List ByteArray) (h : ws ≠ []) (hb : ∀ w, w ∈ ws → (32 : UInt8) ∉ w.data.toList) : cutAll 32 (joinW ws) = ws := by
  apply map_data_inj
  have := cutAll_spl 32 (joinW ws)
  rw [show (((32 : UInt8).toNat : Nat) : Int) = 32 from rfl] at this
  rw [this, joinW_data, spl_join 32 _ (by simpa using h)]
  intro w hw
  obtain ⟨x, hx, rfl⟩ := List.mem_map.1 hw
  exact hb x hx
theorem join_cut (s : ByteArray) : joinW (cutAll 32 s) = s := by
  apply ba_inj
  have := cutAll_spl 32 s
  rw [show (((32 : UInt8).toNat : Nat) : Int) = 32 from rfl] at this
  rw [joinW_data, this, join_spl]
end Go.Sx


/- Lines of operations, read and written, as plain laws. Conditions: those of each theorem. -/
namespace Go.Sx
set_option linter.unusedVariables false
set_option linter.unusedSimpArgs false
def eqH (t : ByteArray) : ByteArray := ⟨#[61]⟩ ++ hexS t
/-- The words behind the kind's. -/
def tailW (ns : List Int) (t : ByteArray) : List ByteArray := ns.map numB ++ (if t = ⟨#[]⟩ then [] else [eqH t])
def lineW (r : RawD) : List ByteArray := (opRowAt (r.nums.getD 0 0)).name :: tailW (r.nums.drop 1) r.text
def lineC (r : RawD) : ByteArray × Int := if (ofR r).2 = 0 then (joinW (lineW r), 0) else (⟨#[]⟩, (ofR r).2)
def okL (l : List Int) : Prop := ∀ n, n ∈ l → i64ok n
def Lok (r : RawD) (s : ByteArray) : Prop := okL r.nums ∧ (ofR r).2 = 0 ∧ joinW (lineW r) = s
def w0 (s : ByteArray) : ByteArray := (cutAll 32 s).getD 0 .empty
/-- What a line reads as. -/
def ReadS (s : ByteArray) (v : RawD) (e : Int) : Prop :=
  (e = 0 ∧ Lok v s) ∨ (e = 9 ∧ v = raw0 ∧ lastTo (w0 s) 24 = 0) ∨ (e = 3 ∧ v = raw0 ∧ lastTo (w0 s) 24 ≠ 0 ∧ ∀ r, ¬ Lok r s)
theorem eqs_size : (⟨#[61]⟩ : ByteArray).size = 1 := rfl
theorem sp_size : (⟨#[32]⟩ : ByteArray).size = 1 := rfl
theorem spe_size : (⟨#[32, 61]⟩ : ByteArray).size = 2 := rfl
theorem eqH_data (t : ByteArray) : (eqH t).data.toList = 61 :: hexL t.data.toList := by
  unfold eqH; rw [ByteArray.data_append, Array.toList_append, hexS_data]; rfl
theorem eqH_size (t : ByteArray) : (eqH t).size = 1 + 2 * t.size := by
  unfold eqH; rw [ByteArray.size_append, hexS_size]; rfl
theorem numB_head' (n : Int) : ∃ b r, (numB n).data.toList = b :: r ∧ b ≠ 61 := by
  rw [numB_data]
  cases h : Lib.itoa n with
  | nil =>
    have := numB_len n
    have h2 : (numB n).size = (Lib.itoa n).length := by rw [← len_size, numB_data]
    have h3 := Lib.nDigits_pos n.natAbs
    rw [h, List.length_nil] at h2; omega
  | cons b r =>
    refine ⟨b, r, rfl, fun e => ?_⟩
    have := itoa_bytes n b (by rw [h]; simp)
    rw [e] at this
    revert this; decide
theorem num_ne_eq (n : Int) (t : ByteArray) : numB n ≠ eqH t := fun e => by
  obtain ⟨b, r, h1, h2⟩ := numB_head' n
  rw [e, eqH_data] at h1
  injection h1 with h1
  exact h2 h1.symm
theorem eqH_inj {a b : ByteArray} (h : eqH a = eqH b) : a = b := by
  have h1 := eqH_data a
  rw [h, eqH_data] at h1
  injection h1 with _ h1
  exact ba_inj (hexL_inj h1.symm)
theorem nil_eq {t : ByteArray} (h : t.size = 0) : t = ⟨#[]⟩ := by
  apply ba_inj; have := len_size t; exact List.length_eq_zero_iff.1 (by omega)
theorem tailW_inj : ∀ {a b : List Int} {t u : ByteArray}, okL a → okL b → tailW a t = tailW b u → a = b ∧ t = u
  | [], [], t, u, _, _, h => by
    refine ⟨rfl, ?_⟩
    unfold tailW at h
    by_cases h1 : t = ⟨#[]⟩ <;> by_cases h2 : u = ⟨#[]⟩
    · rw [h1, h2]
    · rw [if_pos h1, if_neg h2] at h; simp at h
    · rw [if_neg h1, if_pos h2] at h; simp at h
    · rw [if_neg h1, if_neg h2] at h; simp at h; exact eqH_inj h
  | [], y :: b, t, u, _, _, h => by
    unfold tailW at h
    by_cases h1 : t = ⟨#[]⟩
    · rw [if_pos h1] at h; simp at h
    · rw [if_neg h1] at h; simp at h; exact absurd h.1.symm (num_ne_eq y t)
  | x :: a, [], t, u, _, _, h => by
    unfold tailW at h
    by_cases h1 : u = ⟨#[]⟩
    · rw [if_pos h1] at h; simp at h
    · rw [if_neg h1] at h; simp at h; exact absurd h.1 (num_ne_eq x u)
  | x :: a, y :: b, t, u, ha, hb, h => by
    have h' : numB x = numB y ∧ tailW a t = tailW b u := by
      unfold tailW at h ⊢
      simpa using h
    have e := numB_inj (ha x (by simp)) (hb y (by simp)) h'.1
    obtain ⟨e2, e3⟩ := tailW_inj (fun n hn => ha n (by simp [hn])) (fun n hn => hb n (by simp [hn])) h'.2
    exact ⟨by rw [e, e2], e3⟩
theorem name_noblank (k : Int) : (32 : UInt8) ∉ (opRowAt k).name.data.toList := by
  by_cases h : okK k = true
  · rcases okK_cases h with rfl | rfl | rfl | rfl | rfl | rfl | rfl | rfl | rfl | rfl | rfl | rfl | rfl | rfl | rfl | rfl | rfl | rfl | rfl | rfl | rfl | rfl | rfl | rfl <;> decide
  · unfold opRowAt; rw [if_neg h]; decide
theorem name_size (k : Int) : (opRowAt k).name.size ≤ 8 := by
  by_cases h : okK k = true
  · rcases okK_cases h with rfl | rfl | rfl | rfl | rfl | rfl | rfl | rfl | rfl | rfl | rfl | rfl | rfl | rfl | rfl | rfl | rfl | rfl | rfl | rfl | rfl | rfl | rfl | rfl <;> decide
  · unfold opRowAt; rw [if_neg h]; decide
theorem num_noblank (n : Int) : (32 : UInt8) ∉ (numB n).data.toList := fun h => by
  rw [numB_data] at h
  have := itoa_bytes n _ h
  revert this; decide
theorem eqH_noblank (t : ByteArray) : (32 : UInt8) ∉ (eqH t).data.toList := fun h => by
  rw [eqH_data] at h
  rcases List.mem_cons.1 h with h | h
  · exact absurd h (by decide)
  · have := hexL_mem h
    revert this; decide
theorem line_noblank (r : RawD) : ∀ w, w ∈ lineW r → (32 : UInt8) ∉ w.data.toList := by
  intro w hw
  unfold lineW tailW at hw
  rcases List.mem_cons.1 hw with rfl | hw
  · exact name_noblank _
  · rcases List.mem_append.1 hw with hw | hw
    · obtain ⟨n, _, rfl⟩ := List.mem_map.1 hw; exact num_noblank n
    · split at hw
      · simp at hw
      · simp only [List.mem_singleton] at hw; subst hw; exact eqH_noblank _
theorem cut_line (r : RawD) : cutAll 32 (joinW (lineW r)) = lineW r := cut_join _ (by simp [lineW]) (line_noblank r)
theorem Lok.cut {r : RawD} {s : ByteArray} (h : Lok r s) : cutAll 32 s = lineW r := by rw [← h.2.2, cut_line]
theorem of_ok {r : RawD} (h : (ofR r).2 = 0) : r.nums.length ≠ 0 ∧ okK (r.nums.getD 0 0) = true := by
  unfold ofR at h
  split at h
  · simp at h
  · rename_i h1
    simp only [not_or] at h1
    exact ⟨h1.1, by simpa using h1.2⟩
theorem of_kind {r : RawD} (h : (ofR r).2 = 0) : (ofR r).1.kind = r.nums.getD 0 0 := by
  unfold ofR at h ⊢
  split at h
  · simp at h
  · rename_i h1
    rw [if_neg h1]
    split at h
    · simp at h
    · rename_i h2
      rw [if_neg h2]
      split at h
      · simp at h
      · rename_i h3
        rw [if_neg h3]
theorem name_pos {k : Int} (h : okK k = true) : (opRowAt k).name ≠ ⟨#[]⟩ := by
  rcases okK_cases h with rfl | rfl | rfl | rfl | rfl | rfl | rfl | rfl | rfl | rfl | rfl | rfl | rfl | rfl | rfl | rfl | rfl | rfl | rfl | rfl | rfl | rfl | rfl | rfl <;> decide
theorem Lok.kind {r : RawD} {s : ByteArray} (h : Lok r s) : ((lastTo (w0 s) 24 : Nat) : Int) = r.nums.getD 0 0 ∧ lastTo (w0 s) 24 ≠ 0 := by
  obtain ⟨h1, h2⟩ := of_ok h.2.1
  have e : w0 s = (opRowAt (r.nums.getD 0 0)).name := by unfold w0; rw [h.cut]; rfl
  rw [e]
  have := last_row (name_pos h2)
  refine ⟨this, fun h9 => ?_⟩
  rw [h9] at this
  have h3 : 1 ≤ r.nums.getD 0 0 := by simp only [okK, decide_eq_true_eq] at h2; exact h2.1
  omega
theorem head_drop {l : List Int} (h : l.length ≠ 0) : l = l.getD 0 0 :: l.drop 1 := by
  cases l with
  | nil => simp at h
  | cons x l => simp
theorem Lok.unique {r q : RawD} {s : ByteArray} (h : Lok r s) (k : Lok q s) : r = q := by
  have e := h.cut.symm.trans k.cut
  have e1 := h.kind.1.symm.trans k.kind.1
  unfold lineW at e
  injection e with _ e2
  obtain ⟨e3, e4⟩ := tailW_inj (fun n hn => h.1 n (List.mem_of_mem_drop hn)) (fun n hn => k.1 n (List.mem_of_mem_drop hn)) e2
  have h1 := head_drop (of_ok h.2.1).1
  have k1 := head_drop (of_ok k.2.1).1
  cases r; cases q
  simp only at *
  rw [e4, h1, k1, e1, e3]
theorem ReadS.det {s : ByteArray} {v u : RawD} {e f : Int} (h : ReadS s v e) (k : ReadS s u f) : v = u ∧ e = f := by
  rcases h with ⟨rfl, h⟩ | ⟨rfl, rfl, h⟩ | ⟨rfl, rfl, h, h'⟩ <;> rcases k with ⟨rfl, k⟩ | ⟨rfl, rfl, k⟩ | ⟨rfl, rfl, k, k'⟩
  · exact ⟨h.unique k, rfl⟩
  · exact absurd k h.kind.2
  · exact absurd h (k' v)
  · exact absurd h k.kind.2
  · exact ⟨rfl, rfl⟩
  · exact absurd h k
  · exact absurd k (h' u)
  · exact absurd k h
  · exact ⟨rfl, rfl⟩
/-! ### Words read as numbers, and a text behind them -/
structure WdI (ns0 : List Int) (l : List ByteArray) (j : Nat) (nums ns : List Int) : Prop where
  is : nums = ns0 ++ ns
  len : ns.length = j
  ok : okL ns
  tk : l.take j = ns.map numB
def WdNo (l : List ByteArray) : Prop := ∀ ns t, okL ns → l ≠ tailW ns t
def WdOk (ns0 : List Int) (l : List ByteArray) (v : RawD) : Prop := ∃ ns, v.nums = ns0 ++ ns ∧ okL ns ∧ l = tailW ns v.text
def eqP (w : ByteArray) : Bool := Lib.hasPrefix w.data.toList [61]
theorem eqP_eqH (t : ByteArray) : eqP (eqH t) = true := by unfold eqP; rw [eqH_data]; simp [Lib.hasPrefix]
theorem eqP_num (n : Int) : eqP (numB n) = false := by
  obtain ⟨b, r, h1, h2⟩ := numB_head' n
  unfold eqP; rw [h1]
  have hb : ((61 : UInt8) == b) = false := by
    rcases hc : ((61 : UInt8) == b) with _ | _
    · rfl
    · exact absurd (beq_iff_eq.1 hc).symm h2
  simp only [Lib.hasPrefix, List.isPrefixOf, hb, Bool.false_and]
theorem eqP_split {w : ByteArray} (h : eqP w = true) : w = ⟨#[61]⟩ ++ w.extract 1 w.size := by
  apply ba_inj
  have hl := len_size w
  rw [ByteArray.data_append, Array.toList_append, ext_data]
  unfold eqP at h
  cases hw : w.data.toList with
  | nil => rw [hw] at h; simp [Lib.hasPrefix] at h
  | cons b r =>
    rw [hw] at h hl
    simp only [Lib.hasPrefix, List.isPrefixOf, Bool.and_true] at h
    have e : b = 61 := (beq_iff_eq.1 h).symm
    subst e
    simp only [List.drop_succ_cons, List.drop_zero]
    rw [List.take_of_length_le (by simp at hl; omega)]
    rfl
theorem WdI.start (ns0 : List Int) (l : List ByteArray) : WdI ns0 l 0 ns0 [] := ⟨by simp, rfl, fun n hn => by simp at hn, by simp⟩
theorem WdI.num {ns0 nums ns : List Int} {l : List ByteArray} {j : Nat} (h : WdI ns0 l j nums ns) (hj : j < l.length) {n : Int} (hn : i64ok n) (e : numB n = l.getD j .empty) : WdI ns0 l (j + 1) (nums ++ [n]) (ns ++ [n]) := by
  refine ⟨by rw [h.is, List.append_assoc], by simp [h.len], fun m hm => ?_, ?_⟩
  · rcases List.mem_append.1 hm with h1 | h1
    · exact h.ok m h1
    · simp only [List.mem_singleton] at h1; subst h1; exact hn
  · rw [take_snoc l .empty hj, h.tk, List.map_append, ← e]; rfl
theorem WdI.fin {ns0 nums ns : List Int} {l : List ByteArray} {j : Nat} (h : WdI ns0 l j nums ns) (hj : l.length ≤ j) : WdOk ns0 l ⟨nums, ⟨#[]⟩⟩ :=
  ⟨ns, h.is, h.ok, by have := h.tk; rw [List.take_of_length_le hj] at this; rw [this]; simp [tailW]⟩
theorem tailW_at {ns : List Int} {t : ByteArray} {j : Nat} (hj : j < (tailW ns t).length) (hok : okL ns) :
    (∃ n, i64ok n ∧ (tailW ns t).getD j .empty = numB n) ∨ (j = ns.length ∧ t ≠ ⟨#[]⟩ ∧ (tailW ns t).getD j .empty = eqH t ∧ j + 1 = (tailW ns t).length) := by
  by_cases h : j < ns.length
  · refine .inl ⟨ns[j], hok _ (List.getElem_mem _), ?_⟩
    unfold tailW
    rw [List.getD_eq_getElem?_getD, List.getElem?_append_left (by simpa using h), List.getElem?_map, List.getElem?_eq_getElem h]; rfl
  · unfold tailW at hj ⊢
    split at hj
    · simp at hj; omega
    · rename_i ht
      simp at hj
      have e : j = ns.length := by omega
      refine .inr ⟨e, ht, ?_, ?_⟩
      · rw [if_neg ht, List.getD_eq_getElem?_getD, List.getElem?_append_right (by simp; omega)]; simp [e]
      · rw [if_neg ht]; simp [e]
/-- A word that is no number, nor the text. -/
theorem no_word {l : List ByteArray} {j : Nat} (hj : j < l.length) (h1 : ¬ (eqP (l.getD j .empty) = true ∧ j + 1 = l.length)) (h2 : ∀ n, i64ok n → numB n ≠ l.getD j .empty) : WdNo l := by
  rintro ns t hok rfl
  rcases tailW_at hj hok with ⟨n, hn, e⟩ | ⟨_, _, e, e2⟩
  · exact h2 n hn e.symm
  · exact h1 ⟨by rw [e]; exact eqP_eqH t, e2⟩
/-- A last word that would be a text, and is none. -/
theorem no_text {l : List ByteArray} {j : Nat} (hj : j + 1 = l.length) (hp : eqP (l.getD j .empty) = true) (h : ∀ t, t ≠ ⟨#[]⟩ → hexS t ≠ (l.getD j .empty).extract 1 (l.getD j .empty).size) : WdNo l := by
  intro ns t hok e0
  have hj' : j < (tailW ns t).length := by rw [← e0]; omega
  subst e0
  rcases tailW_at hj' hok with ⟨n, hn, e⟩ | ⟨_, h1, e, e2⟩
  · rw [e, eqP_num] at hp; cases hp
  · refine h t h1 ?_
    rw [e]
    apply ba_inj
    have hs := eqH_size t
    rw [ext_data, hexS_data, eqH_data]
    simp only [List.drop_succ_cons, List.drop_zero]
    rw [List.take_of_length_le (by rw [hexL_len, len_size]; omega)]
theorem yes_text {ns0 nums ns : List Int} {l : List ByteArray} {j : Nat} (h : WdI ns0 l j nums ns) (hj : j + 1 = l.length) (hp : eqP (l.getD j .empty) = true) {t : ByteArray} (ht : t ≠ ⟨#[]⟩) (hx : hexS t = (l.getD j .empty).extract 1 (l.getD j .empty).size) : WdOk ns0 l ⟨nums, t⟩ := by
  refine ⟨ns, h.is, h.ok, ?_⟩
  have e := eqP_split hp
  rw [← hx] at e
  unfold tailW
  rw [if_neg ht, ← h.tk]
  have e2 : l = l.take (j + 1) := by rw [List.take_of_length_le (by omega)]
  conv => lhs; rw [e2, take_snoc l .empty (by omega), e]
  rfl
theorem eqP_size {w : ByteArray} (h : eqP w = true) : 1 ≤ w.size := by
  have := congrArg ByteArray.size (eqP_split h)
  rw [ByteArray.size_append, eqs_size] at this; omega
theorem no_num {w : ByteArray} {av : Int} {eb : Bool} (ha : (eb = false ∧ Lib.atoiAll w.data.toList = .ok av ∧ i64ok av) ∨ (eb = true ∧ ∀ u, Lib.atoiAll w.data.toList ≠ .ok u)) (h : eb = true ∨ numB av ≠ w) : ∀ n, i64ok n → numB n ≠ w := by
  rintro n hn rfl
  have e := atoi_itoa hn
  rw [← numB_data] at e
  rcases ha with ⟨h1, h2, h3⟩ | ⟨h1, h2⟩
  · rw [e] at h2
    injection h2 with h2
    rcases h with h | h
    · rw [h1] at h; cases h
    · exact h (by rw [h2])
  · exact h2 n e
theorem wd_end {ns0 nums ns : List Int} {l : List ByteArray} {j : Nat} (h : WdI ns0 l j nums ns) (hj : j + 1 = l.length) (hp : eqP (l.getD j .empty) = true) {t : ByteArray} {b : Bool} (hb : b = true ∧ hexS t = (l.getD j .empty).extract 1 (l.getD j .empty).size ∨ b = false ∧ ∀ t2, hexS t2 ≠ (l.getD j .empty).extract 1 (l.getD j .empty).size) :
    ((b && decide (t ≠ ⟨#[]⟩)) = true ∧ WdOk ns0 l ⟨nums, t⟩) ∨ ((b && decide (t ≠ ⟨#[]⟩)) = false ∧ WdNo l) := by
  rcases hb with ⟨rfl, hx⟩ | ⟨rfl, hx⟩
  · by_cases ht : t = ⟨#[]⟩
    · refine .inr ⟨by simp [ht], no_text hj hp fun u hu e => hu ?_⟩
      rw [← hx] at e
      rw [hexS_inj e, ht]
    · exact .inl ⟨by simp [ht], yes_text h hj hp ht hx⟩
  · exact .inr ⟨rfl, no_text hj hp fun u _ => hx u⟩
theorem wd_endT {ns0 nums ns : List Int} {l : List ByteArray} {j : Nat} (h : WdI ns0 l j nums ns) (hj : j + 1 = l.length) (hp : eqP (l.getD j .empty) = true) {t : ByteArray} {b : Bool} (hb : b = true ∧ hexS t = (l.getD j .empty).extract 1 (l.getD j .empty).size ∨ b = false ∧ ∀ t2, hexS t2 ≠ (l.getD j .empty).extract 1 (l.getD j .empty).size) (hbt : b = true) :
    (decide (t ≠ ⟨#[]⟩) = true ∧ WdOk ns0 l ⟨nums, t⟩) ∨ (decide (t ≠ ⟨#[]⟩) = false ∧ WdNo l) := by
  have := wd_end h hj hp hb
  rw [hbt] at this; simpa only [Bool.true_and] using this
theorem wd_endF {ns0 nums ns : List Int} {l : List ByteArray} {j : Nat} (h : WdI ns0 l j nums ns) (hj : j + 1 = l.length) (hp : eqP (l.getD j .empty) = true) {t : ByteArray} {b : Bool} (hb : b = true ∧ hexS t = (l.getD j .empty).extract 1 (l.getD j .empty).size ∨ b = false ∧ ∀ t2, hexS t2 ≠ (l.getD j .empty).extract 1 (l.getD j .empty).size) (hbt : ¬ b = true) :
    (false = true ∧ WdOk ns0 l ⟨nums, t⟩) ∨ (false = false ∧ WdNo l) := by
  have := wd_end h hj hp hb
  have e : b = false := by simpa using hbt
  rw [e] at this; simpa only [Bool.false_and] using this
/-- What the words say of the line. -/
theorem read_ok {s : ByteArray} {kind : Nat} {v : RawD} (hk : kind = lastTo (w0 s) 24) (h0 : kind ≠ 0) (h24 : i64ok ((kind : Nat) : Int)) (hw : WdOk [((kind : Nat) : Int)] ((cutAll 32 s).drop 1) v) (ho : (ofR v).2 = 0) (hname : (opRowAt ((kind : Nat) : Int)).name = w0 s) : Lok v s := by
  obtain ⟨ns, e1, e2, e3⟩ := hw
  refine ⟨fun n hn => ?_, ho, ?_⟩
  · rw [e1] at hn
    rcases List.mem_append.1 hn with h | h
    · simp only [List.mem_singleton] at h; subst h; exact h24
    · exact e2 n h
  · have e4 : lineW v = cutAll 32 s := by
      unfold lineW
      rw [e1]
      simp only [List.singleton_append, List.drop_succ_cons, List.drop_zero]
      rw [← e3]
      show (opRowAt ((kind : Nat) : Int)).name :: _ = _
      rw [hname]
      unfold w0
      cases hc : cutAll 32 s with
      | nil => simp [cutAll] at hc
      | cons x r => rfl
    rw [e4, join_cut]
theorem kind_name {x : ByteArray} (h : lastTo x 24 ≠ 0) : (opRowAt ((lastTo x 24 : Nat) : Int)).name = x ∧ 1 ≤ lastTo x 24 ∧ lastTo x 24 ≤ 24 := by
  have key : ∀ j, j ≤ 24 → lastTo x j ≠ 0 → lastTo x j ≤ j ∧ opNames.getD (lastTo x j - 1) .empty = x := by
    intro j
    induction j with
    | zero => intro _ h; exact absurd rfl h
    | succ j ih =>
      intro hj hne
      unfold lastTo at hne ⊢
      split at hne
      · rename_i h1
        rw [if_pos h1]; exact ⟨Nat.le_refl _, by simpa using h1⟩
      · rename_i h1
        rw [if_neg h1]
        obtain ⟨a, b⟩ := ih (by omega) hne
        exact ⟨by omega, b⟩
  obtain ⟨a, b⟩ := key 24 (Nat.le_refl _) h
  refine ⟨?_, by omega, a⟩
  rw [row_name ⟨by omega, by omega⟩]
  rw [show (((lastTo x 24 : Nat) : Int) - 1).toNat = lastTo x 24 - 1 by omega]
  exact b
theorem no_line {s : ByteArray} (h : WdNo ((cutAll 32 s).drop 1)) : ∀ r, ¬ Lok r s := fun r hr => by
  have e := hr.cut
  refine h (r.nums.drop 1) r.text (fun n hn => hr.1 n (List.mem_of_mem_drop hn)) ?_
  rw [e]; rfl
/-- Where the words are a line's, but no operation's. -/
theorem no_op {s : ByteArray} {kind : Nat} {v : RawD} (hk : kind = lastTo (w0 s) 24) (hw : WdOk [((kind : Nat) : Int)] ((cutAll 32 s).drop 1) v) (ho : (ofR v).2 ≠ 0) : ∀ r, ¬ Lok r s := fun r hr => by
  obtain ⟨ns, e1, e2, e3⟩ := hw
  have e := hr.cut
  rw [e] at e3
  obtain ⟨f1, f2⟩ := tailW_inj (fun n hn => hr.1 n (List.mem_of_mem_drop hn)) e2 (show tailW (r.nums.drop 1) r.text = tailW ns v.text from e3)
  have f3 := hr.kind.1
  have f4 := head_drop (of_ok hr.2.1).1
  have : r = v := by
    cases r; cases v
    simp only at *
    rw [f4, ← f3, f1, f2, e1, hk]; rfl
  rw [this] at hr
  exact ho hr.2.1
theorem hex_hexS (t : ByteArray) : strOfNums (hexI t t.size) = hexS t := hex_same t t.size
theorem line_step {r : RawD} {k : Nat} (hk : k + 1 < r.nums.length) : joinW ((opRowAt (r.nums.getD 0 0)).name :: ((r.nums.drop 1).take (k + 1)).map numB) = joinW ((opRowAt (r.nums.getD 0 0)).name :: ((r.nums.drop 1).take k).map numB) ++ ⟨#[32]⟩ ++ numB (r.nums.getD (k + 1) 0) := by
  have h : k < (r.nums.drop 1).length := by simp; omega
  rw [take_snoc (r.nums.drop 1) 0 h, List.map_append, ← List.cons_append, List.map_cons, List.map_nil, joinW_snoc _ _ (by simp)]
  congr 2
  simp [List.getD_eq_getElem?_getD, Nat.add_comm]
theorem line_fin {r : RawD} {k : Nat} (hk : r.nums.length ≤ k + 1) (ht : r.text = ⟨#[]⟩) : joinW ((opRowAt (r.nums.getD 0 0)).name :: ((r.nums.drop 1).take k).map numB) = joinW (lineW r) := by
  unfold lineW tailW
  rw [List.take_of_length_le (by simp; omega), if_pos ht, List.append_nil]
theorem line_finT {r : RawD} {k : Nat} (hk : r.nums.length ≤ k + 1) (ht : r.text ≠ ⟨#[]⟩) : joinW ((opRowAt (r.nums.getD 0 0)).name :: ((r.nums.drop 1).take k).map numB) ++ ⟨#[32]⟩ ++ eqH r.text = joinW (lineW r) := by
  unfold lineW tailW
  rw [List.take_of_length_le (by simp; omega), if_neg ht, ← List.cons_append, joinW_snoc _ _ (by simp)]
theorem spEq (h : ByteArray) (x : ByteArray) : x ++ (⟨#[32, 61]⟩ : ByteArray) ++ h = x ++ ⟨#[32]⟩ ++ (⟨#[61]⟩ ++ h) := by
  apply ba_inj; simp
theorem tailW_size {ns : List Int} {t : ByteArray} (h : okL ns) (ht : t.size ≤ 100000) : ∀ w, w ∈ tailW ns t → w.size ≤ 200001 := by
  intro w hw
  unfold tailW at hw
  rcases List.mem_append.1 hw with hw | hw
  · obtain ⟨n, hn, rfl⟩ := List.mem_map.1 hw
    have := numB_size20 (h n hn); omega
  · split at hw
    · simp at hw
    · simp only [List.mem_singleton] at hw; subst hw; rw [eqH_size]; omega
theorem words_size {name : ByteArray} {ns : List Int} (h : okL ns) (hn : name.size ≤ 8) {m : Nat} (hm : 20 ≤ m) : ∀ w, w ∈ name :: ns.map numB → w.size ≤ m := by
  intro w hw
  rcases List.mem_cons.1 hw with rfl | hw
  · omega
  · obtain ⟨n, hn, rfl⟩ := List.mem_map.1 hw
    have := numB_size20 (h n hn); omega
theorem joinW_size {l : List ByteArray} {m : Nat} (h : ∀ w, w ∈ l → w.size ≤ m) : (joinW l).size ≤ l.length * (m + 1) := by
  have := join_len m l h
  rw [← len_size, joinW_data]; exact this
theorem lineW_size {r : RawD} (h : okL r.nums) (hl : r.nums.length ≤ 1000) (ht : r.text.size ≤ 100000) : (joinW (lineW r)).size ≤ 1000000000 ∧ (lineW r).length ≤ 1002 ∧ lineW r ≠ [] := by
  have h2 : (lineW r).length ≤ 1002 := by unfold lineW tailW; split <;> simp <;> omega
  have h1 := joinW_size (l := lineW r) (m := 200001) (by
    intro w hw
    unfold lineW at hw
    rcases List.mem_cons.1 hw with rfl | hw
    · have := name_size (r.nums.getD 0 0); omega
    · exact tailW_size (fun n hn => h n (List.mem_of_mem_drop hn)) ht w hw)
  have h3 : (lineW r).length * 200002 ≤ 1002 * 200002 := Nat.mul_le_mul_right _ h2
  exact ⟨by omega, h2, by simp [lineW]⟩
theorem line_part_size {r : RawD} (h : okL r.nums) (hl : r.nums.length ≤ 1000) (k : Nat) : (joinW ((opRowAt (r.nums.getD 0 0)).name :: ((r.nums.drop 1).take k).map numB)).size ≤ 30000 := by
  have h1 := joinW_size (words_size (name := (opRowAt (r.nums.getD 0 0)).name) (ns := (r.nums.drop 1).take k) (m := 20) (fun n hn => h n (List.mem_of_mem_drop (List.mem_of_mem_take hn))) (name_size _) (Nat.le_refl _))
  have h2 : (((opRowAt (r.nums.getD 0 0)).name :: ((r.nums.drop 1).take k).map numB)).length ≤ 1001 := by simp; omega
  omega
end Go.Sx


/- Lines read: the two ways give one operation, or the same no. Conditions: those of each theorem. -/
namespace Go.Sx
set_option linter.unusedVariables false
set_option linter.unusedSimpArgs false
theorem cutTo_len (c : Int) (s : ByteArray) : ∀ i, (cutTo c s i).1.length ≤ i
  | 0 => Nat.le_refl _
  | i + 1 => by
    have := cutTo_len c s i
    unfold cutTo; split
    · simp; omega
    · omega
theorem cutAll_len (c : Int) (s : ByteArray) : (cutAll c s).length ≤ s.size + 1 := by
  have := cutTo_len c s s.size
  unfold cutAll; simp; omega
theorem cutTo_mem (c : Int) (s : ByteArray) : ∀ i x, x ∈ (cutTo c s i).1 → x.size ≤ s.size
  | 0, x, h => by simp [cutTo] at h
  | i + 1, x, h => by
    unfold cutTo at h
    split at h
    · rcases List.mem_append.1 h with h1 | h1
      · exact cutTo_mem c s i x h1
      · simp only [List.mem_singleton] at h1; subst h1; rw [ByteArray.size_extract]; omega
    · exact cutTo_mem c s i x h
theorem cutAll_mem (c : Int) (s : ByteArray) : ∀ x, x ∈ cutAll c s → x.size ≤ s.size := fun x h => by
  unfold cutAll at h
  rcases List.mem_append.1 h with h1 | h1
  · exact cutTo_mem c s _ x h1
  · simp only [List.mem_singleton] at h1; subst h1; rw [ByteArray.size_extract]; omega
theorem cutAll_ne (c : Int) (s : ByteArray) : 0 < (cutAll c s).length := by unfold cutAll; simp
theorem read_bad {s : ByteArray} {kind : Nat} {v : RawD} {ok : Bool} (hk : kind = lastTo (w0 s) 24) (hw : (ok = true ∧ WdOk [((kind : Nat) : Int)] ((cutAll 32 s).drop 1) v) ∨ (ok = false ∧ WdNo ((cutAll 32 s).drop 1))) (h : ¬ ok = true ∨ (ofR v).2 ≠ 0) : ∀ r, ¬ Lok r s := by
  rcases hw with ⟨h1, h2⟩ | ⟨h1, h2⟩
  · exact no_op hk h2 (h.resolve_left (fun h9 => h9 h1))
  · exact no_line h2
theorem read_good {s : ByteArray} {kind : Nat} {v : RawD} {ok : Bool} (hk : kind = lastTo (w0 s) 24) (h0 : kind ≠ 0) (hw : (ok = true ∧ WdOk [((kind : Nat) : Int)] ((cutAll 32 s).drop 1) v) ∨ (ok = false ∧ WdNo ((cutAll 32 s).drop 1))) (h : ok = true) (ho : (ofR v).2 = 0) : Lok v s := by
  have h2 := hw.resolve_right (fun h9 => by rw [h] at h9; cases h9.1)
  obtain ⟨a, b, c⟩ := kind_name (x := w0 s) (by rw [← hk]; exact h0)
  exact read_ok hk h0 (by unfold i64ok; omega) h2.2 ho (by rw [hk]; exact a)
theorem lineC_ok {r : RawD} (h : (lineC r).2 = 0) : (ofR r).2 = 0 ∧ (lineC r).1 = joinW (lineW r) := by
  unfold lineC at h ⊢
  split at h
  · rename_i h1
    rw [if_pos h1]; exact ⟨h1, rfl⟩
  · rename_i h1; exact absurd h h1
theorem lineC_of {r : RawD} {s : ByteArray} (h : Lok r s) : lineC r = (s, 0) := by
  unfold lineC; rw [if_pos h.2.1, h.2.2]
def kindL (k : Nat) : List Int := if k = 0 then [] else [((k : Nat) : Int)]
theorem kindL_ok {x : ByteArray} (h : lastTo x 24 ≠ 0) : okL (kindL (lastTo x 24)) ∧ kindL (lastTo x 24) = [((lastTo x 24 : Nat) : Int)] := by
  obtain ⟨_, b, c⟩ := kind_name h
  unfold kindL
  rw [if_neg h]
  exact ⟨fun n hn => by simp only [List.mem_singleton] at hn; subst hn; unfold i64ok; omega, rfl⟩
theorem eqP_bt {w : ByteArray} : eqP w = true ↔ 0 < w.size ∧ bt w 0 = 61 := by
  have hl := len_size w
  unfold eqP bt
  cases h : w.data.toList with
  | nil => rw [h] at hl; simp [Lib.hasPrefix] at hl ⊢; try omega
  | cons b r =>
    rw [h] at hl
    simp only [Lib.hasPrefix, List.isPrefixOf, Bool.and_true, beq_iff_eq, List.getD_cons_zero]
    constructor
    · intro e; subst e; exact ⟨by simp at hl; omega, rfl⟩
    · intro e; exact (UInt8.toNat_inj.1 (by have := e.2; show b.toNat = 61; omega)).symm
/-- What the document has of the words so far. -/
structure RfI (kind : Int) (T : List ByteArray) (k : Nat) (xs : List Int) (tx : ByteArray) : Prop where
  ok : okL xs
  len : xs.length ≤ k + 1
  is : ∀ ns t, okL ns → T = tailW ns t → xs = kind :: ns.take k ∧ tx = if ns.length < k then t else ⟨#[]⟩
theorem RfI.start {kind : Int} (T : List ByteArray) (h : i64ok kind) : RfI kind T 0 [kind] ⟨#[]⟩ :=
  ⟨fun n hn => by simp only [List.mem_singleton] at hn; subst hn; exact h, by simp, fun ns t _ _ => ⟨by simp, by simp⟩⟩
theorem RfI.text {kind : Int} {T : List ByteArray} {k : Nat} {xs : List Int} {tx : ByteArray} (h : RfI kind T k xs tx) (hk : k < T.length) (hp : eqP (T.getD k .empty) = true) {t1 : ByteArray} (h1 : ∀ t2, (T.getD k .empty).extract 1 (T.getD k .empty).size = hexS t2 → t1 = t2) : RfI kind T (k + 1) xs t1 := by
  refine ⟨h.ok, by have := h.len; omega, fun ns t hok e => ?_⟩
  obtain ⟨e1, _⟩ := h.is ns t hok e
  subst e
  rcases tailW_at hk hok with ⟨n, hn, e⟩ | ⟨e0, _, e, _⟩
  · rw [e, eqP_num] at hp; cases hp
  · rw [if_pos (by omega), e1]
    refine ⟨by rw [List.take_of_length_le (by omega), List.take_of_length_le (by omega)], h1 t ?_⟩
    rw [e]
    apply ba_inj
    have hs := eqH_size t
    rw [ext_data, hexS_data, eqH_data]
    simp only [List.drop_succ_cons, List.drop_zero]
    rw [List.take_of_length_le (by rw [hexL_len, len_size]; omega)]
theorem RfI.num {kind : Int} {T : List ByteArray} {k : Nat} {xs : List Int} {tx : ByteArray} (h : RfI kind T k xs tx) (hk : k < T.length) (hp : ¬ (eqP (T.getD k .empty) = true ∧ k + 1 = T.length)) {rv : Int} (hr : i64ok rv) (h1 : ∀ n, i64ok n → T.getD k .empty = numB n → rv = n) : RfI kind T (k + 1) (xs ++ [rv]) tx := by
  refine ⟨fun n hn => ?_, by have := h.len; simp; omega, fun ns t hok e => ?_⟩
  · rcases List.mem_append.1 hn with hn | hn
    · exact h.ok n hn
    · simp only [List.mem_singleton] at hn; subst hn; exact hr
  · obtain ⟨e1, e2⟩ := h.is ns t hok e
    subst e
    by_cases hkn : k < ns.length
    · have e3 : (tailW ns t).getD k .empty = numB (ns.getD k 0) := by
        unfold tailW
        rw [List.getD_eq_getElem?_getD, List.getElem?_append_left (by simpa using hkn), List.getElem?_map]
        simp [List.getD_eq_getElem?_getD, hkn]
      have e4 := h1 _ (hok _ (getD_mem' hkn)) e3
      refine ⟨by rw [e1, e4, take_snoc ns 0 hkn]; rfl, ?_⟩
      rw [e2, if_neg (by omega), if_neg (by omega)]
    · rcases tailW_at hk hok with ⟨n, hn, e⟩ | ⟨e0, _, e, e9⟩
      · exfalso
        have hl : k = ns.length := by
          unfold tailW at hk
          split at hk <;> simp at hk <;> omega
        unfold tailW at e hk
        split at hk
        · simp at hk; omega
        · rename_i ht
          rw [if_neg ht, List.getD_eq_getElem?_getD, List.getElem?_append_right (by simp; omega)] at e
          simp [hl] at e
          exact num_ne_eq n t e.symm
      · exact absurd ⟨by rw [e]; exact eqP_eqH t, e9⟩ hp
theorem RfI.fin {s : ByteArray} {T : List ByteArray} {k : Nat} {xs : List Int} {tx : ByteArray} (h : RfI ((lastTo (w0 s) 24 : Nat) : Int) T k xs tx) (hT : T = (cutAll 32 s).drop 1) (hk : T.length ≤ k) {r : RawD} (hr : Lok r s) : r = ⟨xs, tx⟩ := by
  have e := hr.cut
  have e0 : T = tailW (r.nums.drop 1) r.text := by rw [hT, e]; rfl
  obtain ⟨e1, e2⟩ := h.is (r.nums.drop 1) r.text (fun n hn => hr.1 n (List.mem_of_mem_drop hn)) e0
  have e3 := hr.kind.1
  have e4 := head_drop (of_ok hr.2.1).1
  have hl := congrArg List.length e0
  have e5 : tx = r.text := by
    rw [e2]
    split
    · rfl
    · rename_i h9
      unfold tailW at hl
      split at hl
      · rename_i h8; exact h8.symm
      · simp at hl; simp at h9; omega
  have hle : (r.nums.drop 1).length ≤ k := by
    have : (r.nums.drop 1).length ≤ T.length := by rw [hl]; unfold tailW; simp
    omega
  rw [List.take_of_length_le hle, e3] at e1
  cases r
  simp only at *
  rw [e4, e1, e5]
theorem ref_bad {s : ByteArray} {T : List ByteArray} {k : Nat} {xs : List Int} {tx : ByteArray} (h : RfI ((lastTo (w0 s) 24 : Nat) : Int) T k xs tx) (hT : T = (cutAll 32 s).drop 1) (hk : T.length ≤ k) (hb : (lineC ⟨xs, tx⟩).2 ≠ 0 ∨ (lineC ⟨xs, tx⟩).1 ≠ s) : ∀ r, ¬ Lok r s := fun r hr => by
  have e := h.fin hT hk hr
  rw [← e, lineC_of hr] at hb
  rcases hb with hb | hb <;> exact hb rfl
theorem ref_good {s : ByteArray} {T : List ByteArray} {k : Nat} {kind : Int} {xs : List Int} {tx : ByteArray} (h : RfI kind T k xs tx) (h1 : ¬ (lineC ⟨xs, tx⟩).2 ≠ 0) (h2 : ¬ (lineC ⟨xs, tx⟩).1 ≠ s) : Lok ⟨xs, tx⟩ s := by
  obtain ⟨a, b⟩ := lineC_ok (Classical.not_not.1 h1)
  exact ⟨h.ok, a, by rw [← b]; exact Classical.not_not.1 h2⟩
theorem drop_get (l : List ByteArray) (k : Nat) : l.getD (k + 1) .empty = (l.drop 1).getD k .empty := by
  simp [List.getD_eq_getElem?_getD, Nat.add_comm]
theorem kindL_nil {k : Nat} (h : (((kindL k).length : Nat) : Int) = 0) : k = 0 := by
  unfold kindL at h
  split at h
  · assumption
  · simp at h
end Go.Sx


/- Proved here: where a digit stands; conditions: those of the theorem. -/
namespace Go.Proofs.YtnjjjmpdikpjaabDoor
open Go Go.Sx
theorem ixd_any (z : Int) (w : World) : Calls Tryd.prog 50 #[.string ⟨#[48, 49, 50, 51, 52, 53, 54, 55, 56, 57, 97, 98, 99, 100, 101, 102]⟩, .int .u8 z] w (Ret fun v w' => v = .int .i64 (ixD z) ∧ Upd w [] w' []) := indexByte_any _ z w
/-- .. and at none of some blocks. -/
structure LaidK (w : World) (S : List Nat) : Prop where
  laid : Laid w
  off : ∀ g, g ∈ S → ∀ k, k < 4 → g ≠ k
theorem LaidK.at {w w' : World} {L : List Chunk} {G : List (List Chunk)} (h : LaidK w (ats L)) (u : UpG w L w' G) : Laid w' := by
  have k := u.keep
  have hoff : ∀ j, j < 4 → j ∉ ats L := fun j hj hm => h.off j hm j hj rfl
  obtain ⟨m, hm⟩ := h.laid.ml
  obtain ⟨s, hs, hs'⟩ := h.laid.sy
  obtain ⟨r, hr, hr'⟩ := h.laid.rg
  refine ⟨?_, ⟨m, k.cell hm (hoff 0 (by decide))⟩, ⟨s, k.cell hs (hoff 1 (by decide)), hs'⟩, ⟨r, k.cell hr (hoff 2 (by decide)), hr'⟩⟩
  have hg : Tryd.prog.globalNamed "internal/strconv.uint64pow10" = some 3 := by kernel_rfl
  have ht := h.laid.tab
  unfold Lib.TabIs at ht ⊢
  unfold World.var? at ht ⊢
  rw [hg] at ht ⊢
  simp only [Option.bind_some] at ht ⊢
  have hb : w'.heap[3]? = w.heap[3]? := by
    have h3 : 3 < w.heap.size := by
      rcases Nat.lt_or_ge 3 w.heap.size with h9 | h9
      · exact h9
      · rw [Array.getElem?_eq_none h9] at ht; simp at ht
    exact k.block 3 h3 (hoff 3 (by decide))
  rw [hb]; exact ht
theorem Laid.four {w : World} (h : Laid w) : 4 ≤ w.heap.size := by
  have hg : Tryd.prog.globalNamed "internal/strconv.uint64pow10" = some 3 := by kernel_rfl
  have ht := h.tab
  unfold Lib.TabIs World.var? at ht
  rw [hg] at ht
  rcases Nat.lt_or_ge 3 w.heap.size with h9 | h9
  · exact h9
  · simp only [Option.bind_some] at ht
    rw [Array.getElem?_eq_none h9] at ht; simp at ht
theorem LaidK.of {w w' : World} {G : List (List Chunk)} {A B : List Chunk} (h : Laid w) (u : UpG w [] w' G) (i j : Nat) (hi : G[i]? = some A) (hj : G[j]? = some B) : LaidK w' (ats (A ++ B)) := by
  refine ⟨h.at u, fun g hg k hk e => ?_⟩
  have h4 := h.four
  have hm : g ∈ ats G.flatten := by
    obtain ⟨c, hc, hg'⟩ := mem_ats.1 hg
    refine mem_ats.2 ⟨c, ?_, hg'⟩
    rcases List.mem_append.1 hc with h1 | h1
    · exact List.mem_flatten.2 ⟨A, List.mem_of_getElem? hi, h1⟩
    · exact List.mem_flatten.2 ⟨B, List.mem_of_getElem? hj, h1⟩
  rcases Upd.fresh u g hm with h1 | h1
  · simp [ats] at h1
  · omega
theorem wordsC_any (s : ByteArray) (w : World) (hs : s.size ≤ 1000000) :
    Calls Tryd.prog 21 #[.string s] w (Ret fun v w' => ∃ a2 : Option Addr, ∃ c2 : Nat, v = .slice a2 (cutAll 32 s).length c2 ∧ Upd w [] w' [rowT tyS (.slice a2 (cutAll 32 s).length c2) 9 (cutAll 32 s)]) := by
  have := words41_any s w hs
  rw [wordsR_cut] at this; exact this
theorem eqp_any (s : ByteArray) (w : World) : Calls Tryd.prog 37 #[.string s, .string ⟨#[61]⟩] w (Ret fun v w' => v = .bool (eqP s) ∧ Upd w [] w' []) := hasPrefix_any s _ w
theorem splitW_any (s : ByteArray) (w : World) (lw : Laid w) (hs : s.size ≤ 1000000) :
    Calls Tryd.prog 17 #[.string s, .string ⟨#[32]⟩] w (Ret fun v w' => ∃ a2 : Option Addr, ∃ c2 : Nat, v = .slice a2 (cutAll 32 s).length c2 ∧ Upd w [] w' [rowT tyS (.slice a2 (cutAll 32 s).length c2) 9 (cutAll 32 s)]) := by
  have := split_any s ⟨#[32]⟩ w lw hs (by decide)
  rw [show splitS s ⟨#[32]⟩ = cutAll 32 s from splitB_cut 32 s] at this
  exact this
theorem splitL_any (s : ByteArray) (w : World) (lw : Laid w) (hs : s.size ≤ 1000000) :
    Calls Tryd.prog 17 #[.string s, .string ⟨#[10]⟩] w (Ret fun v w' => ∃ a2 : Option Addr, ∃ c2 : Nat, v = .slice a2 (cutAll 10 s).length c2 ∧ Upd w [] w' [rowT tyS (.slice a2 (cutAll 10 s).length c2) 9 (cutAll 10 s)]) := by
  have := split_any s ⟨#[10]⟩ w lw hs (by decide)
  rw [show splitS s ⟨#[10]⟩ = cutAll 10 s from splitB_cut 10 s] at this
  exact this
theorem joinW_any (l : List ByteArray) (la : Option Addr) (lc : Nat) (w : World) (hp : Hp w [rowT tyS (.slice la l.length lc) 9 l]) (hlen : (joinW l).size ≤ 1000000000000) (hne : l ≠ []) (hN : l.length ≤ 1000000) :
    Calls Tryd.prog 28 #[.slice la l.length lc, .string ⟨#[32]⟩] w (Ret fun v w' => v = .string (joinW l) ∧ Upd w [rowT tyS (.slice la l.length lc) 9 l] w' [rowT tyS (.slice la l.length lc) 9 l]) :=
  join_any la l lc ⟨#[32]⟩ w hp (by rw [← len_size, joinW_data] at hlen; exact hlen) hne hN
end Go.Proofs.YtnjjjmpdikpjaabDoor


/- The walks of functions, printed by wip/tools/gw.py. -/
namespace Go.Proofs.YtnjjjmpdikpjaabDoor
open Go Go.Sx
set_option linter.unusedVariables false
set_option linter.unusedSimpArgs false
set_option maxRecDepth 20000 in
theorem bytes_any (s : ByteArray) (w : World) (hs : s.size ≤ 1000000) :
   Calls Tryd.prog 38 #[.string s] w (Ret fun v w' => ∃ t : ByteArray, ∃ b : Bool, v = .tuple #[.string t, .bool b] ∧ Upd w [] w' [] ∧ (t.size ≤ s.size) ∧ (b = true ∧ hexS t = s ∨ b = false ∧ ∀ t2, hexS t2 ≠ s)) := by
 refine calls_of_W (args := [.string s]) Tryd.func38 rfl rfl rfl ?_
 have H0 : UpG w [] w [] := UpG.nil w
 show W _ _ _ _ [(0, _)] w
 refine sr (ag rfl (ag rfl (dc (W.seq (W.seq (W.region (mv rfl (oo (d_lenStr y9 rfl (oo (d_remN rfl rfl (by omega) (by omega) (oo (d_cmp _ rfl rfl rfl (dc ?_))))))))))))))
 refine W.ite rfl (fun c25 => ?_) (fun c25 => ?_)
 · refine sr (ag rfl (ag rfl (dc (W.ret (X.then_ret (X.ret2 rfl rfl rfl ?_))))))
   exact ⟨⟨#[]⟩, false, rfl, H0.noneL, (Nat.zero_le _), (.inr ⟨rfl, fun t2 h9 => by have h8 := hexS_size t2; rw [h9] at h8; omega⟩)⟩
 · refine sc (W.seq (W.region (mv rfl (oo (d_lenStr y9 rfl (oo (d_quo rfl rfl (by omega) (by omega) (by omega) (oo (t_make0 (s.size / 2) (T := (tyI .u8)) rfl y69 sz5 rfl rfl rfl (by omega) (by omega) fun w1 u1 => ?_)))))))))
   have H1 : UpG _ _ _ [[_]] := H0.new' u1
   refine ag rfl (dc (W.seq (W.seq (W.region (ag rfl (dc (W.block (W.lp (B := [(3, _), (2, _), (0, _)]) [5, 4, 3, 2, 0] (fun B R L m Γ' w' => ∃ i : Nat, ∃ o : List Int, ∃ a : Option Addr, ∃ c : Nat, Γ' = (5, .int .i64 ((i : Nat) : Int)) :: (4, .slice a o.length c) :: B ∧ UpG w L w' ([rowT (tyI .u8) (.slice a o.length c) 5 o] :: R) ∧ (i ≤ s.size ∧ i % 2 = 0) ∧ (AbI s o i) ∧ m = s.size - i) (s.size - 0) ⟨0, ([] : List Int), (some ⟨w.heap.size, 0, none⟩), s.size / 2, rfl, H1, (by omega), (by exact AbI.start s), rfl⟩ rfl ?_))))))))
   rintro m1 Γ1 w2 ⟨i, o, a, c, rfl, H2, hi, ho, rfl⟩
   have h2 := ho.two
   refine W.seq (W.seq (W.region (mv rfl (mv rfl (oo (d_lenStr y9 rfl (oo (d_cmp _ rfl rfl rfl (dc ?_)))))))))
   refine W.ite rfl (fun c29 => ?_) (fun c29 => ?_)
   · refine sc (W.seq (W.block (W.seq ?_)))
     have hb0 := bt_range s i
     have hb1 := bt_range s (i + 1)
     have hx0 := ixD_lo (bt s i)
     have hx1 := ixD_lo (bt s (i + 1))
     refine W.regionD mixed (by kernel_rfl) fun hok1 w3 k1 => ?_
     have H3 : UpG _ _ _ [[_]] := H2.kept k1
     refine tm hok1 0 rfl rfl (tm hok1 1 rfl rfl (tq hok1 2 rfl rfl (fun _ => d_idxStrN i y9 rfl rfl rfl (by omega) ⟨rfl, rfl⟩) (tm hok1 4 rfl rfl (tm hok1 5 rfl rfl (tq hok1 6 rfl rfl (fun _ => d_add rfl rfl (by omega) (by omega) ⟨rfl, rfl⟩) (tq hok1 7 rfl rfl (fun _ => d_idxStrN (i + 1) y9 rfl rfl rfl (by omega) ⟨rfl, rfl⟩) (wo hok1 3 (lo [_, _, _, _] rfl rfl (d_call ok50 rfl (Ret.calls (ixd_any _ w3  ) fun _ w4 p1 => ?_))))))))))
     obtain ⟨rfl, u2⟩ := p1
     have H4 : UpG _ _ _ [[_]] := H3.call u2
     refine ⟨⟨trivial, trivial, trivial, trivial, trivial⟩, (wo hok1 8 (lo [] rfl rfl (d_call ok50 rfl (Ret.calls (ixd_any _ w4  ) fun _ w5 p2 => ?_))))⟩
     obtain ⟨rfl, u3⟩ := p2
     have H5 : UpG _ _ _ [[_]] := H4.call u3
     refine ⟨trivial, (tq hok1 9 rfl rfl (fun _ => d_assign rfl ⟨rfl, rfl⟩) (tq hok1 10 rfl rfl (fun _ => d_assign rfl ⟨rfl, rfl⟩) (WD.done hok1 rfl (X.then_code (W.seq (W.seq (W.region (mv rfl (oo (d_cmp _ rfl rfl rfl (mv rfl ?_)))))))))))⟩
     refine WL.part 33 rfl (fun g31 => ?_) (fun g31 => ?_)
     · refine WL.opN rfl rfl rfl rfl (WL.opN rfl rfl rfl rfl (oo (d_pick rfl rfl (dc (W.ift rfl (W.seq (W.region (ag rfl (ag rfl (dc (W.ret (X.then_ret (X.block_ret (X.then_ret (X.then_ret (X.block_ret (X.then_ret (X.ret2 rfl rfl rfl ?_))))))))))))))))))
       exact ⟨⟨#[]⟩, false, rfl, H5.noneL, (Nat.zero_le _), (.inr ⟨rfl, fun t2 => by first | exact no_hex (i := i) (by omega) (by assumption) t2 | exact no_hex (i := i + 1) (by omega) (by assumption) t2⟩)⟩
     · refine WL.opG rfl rfl rfl (d_move rfl (WL.opG rfl rfl rfl (d_cmp _ rfl rfl rfl (oo (d_pick rfl rfl (dc ?_))))))
       refine W.ite rfl (fun c31 => ?_) (fun c31 => ?_)
       · refine sr (ag rfl (ag rfl (dc (W.ret (X.then_ret (X.block_ret (X.then_ret (X.then_ret (X.block_ret (X.then_ret (X.ret2 rfl rfl rfl ?_)))))))))))
         exact ⟨⟨#[]⟩, false, rfl, H5.noneL, (Nat.zero_le _), (.inr ⟨rfl, fun t2 => by first | exact no_hex (i := i) (by omega) (by assumption) t2 | exact no_hex (i := i + 1) (by omega) (by assumption) t2⟩)⟩
       · refine sc ?_
         have hp0 := (ixD_pos (s := s) (i := i) (by rw [len_size]; omega) (by assumption)).1
         have hp1 := (ixD_pos (s := s) (i := i + 1) (by rw [len_size]; omega) (by assumption)).1
         refine W.region (mv rfl (mv rfl (oo (d_shl4 ((ixD (bt s i)).toNat) (by omega) (by omega) rfl rfl (mv rfl (oo (d_or4 ((ixD (bt s i)).toNat) ((ixD (bt s (i + 1))).toNat) (by omega) (by omega) (by omega) rfl rfl (oo (d_convI (kd := .u8) y3 y5 rfl (by simp [IntKind.signed, IntKind.bits, IntKind.max]; omega) (oo (t_buildSlice (T := (tyI .u8)) (xs := [((((ixD (bt s i)).toNat) * 16 + ((ixD (bt s (i + 1))).toNat) : Nat) : Int)]) (cs := #[.int .u8 ((((ixD (bt s i)).toNat) * 16 + ((ixD (bt s (i + 1))).toNat) : Nat) : Int)]) rfl y69 sz5 rfl rfl rfl rfl (by kernel_rfl) rfl rfl fun w6 u4 => ?_)))))))))))
         have H6 : UpG _ _ _ [[_], [_]] := H5.new' u4
         refine oo (t_append (T := (tyI .u8)) (xs := o) (ys := [((((ixD (bt s i)).toNat) * 16 + ((ixD (bt s (i + 1))).toNat) : Nat) : Int)]) rfl y69 sz5 rfl rfl rfl (H6.ownT 0 rfl) (H6.rdT 1 rfl) (by simp; omega) (by simp; omega) fun a1 c1 w7 u5 => ?_)
         have H7 : UpG _ _ _ [[_], []] := (H6.on 0 rfl u5).drop 1
         refine ag rfl (WL.done (X.block_normal (X.then_code (W.pick [4, 35, 34, 5, 3, 2, 0] (Γ' := [(4, _), (35, _), (34, _), (5, _), (3, _), (2, _), (0, _)]) rfl (W.region (mv rfl (oo (d_add rfl rfl (by omega) (by omega) (ag rfl (WL.done ?_))))))))))
         exact X.nx [5, 4, 3, 2, 0] (s.size - (i + 2)) (by omega) ⟨i + 2, o ++ [((((ixD (bt s i)).toNat) * 16 + ((ixD (bt s (i + 1))).toNat) : Nat) : Int)], a1, c1, rfl, (H7.re rfl), (by omega), (by exact ho.next (by omega) (by assumption) (by assumption)), rfl⟩ rfl
   · refine W.exit (X.then_exit (X.then_exit (X.block_exit (X.then_code (W.seq (W.region (mv rfl (oo (d_bytesStr y69 y5 y9 rfl (H2.rdT 0 rfl) (ag rfl (ag rfl (dc (W.ret (X.ret2 rfl rfl rfl ?_))))))))))))))
     exact ⟨strOfNums o, true, rfl, H2.noneL, (by rw [strOfNums_size]; omega), (.inl ⟨rfl, ho.fin (by omega)⟩)⟩

set_option maxRecDepth 20000 in
theorem bytes41_any (s : ByteArray) (w : World) (hs : s.size ≤ 1000) :
   Calls Tryd.prog 23 #[.string s] w (Ret fun v w' => ∃ t : ByteArray, ∃ b : Bool, v = .tuple #[.string t, .bool b] ∧ Upd w [] w' [] ∧ (t.size ≤ 256 * s.size) ∧ (∀ t2, s = hexS t2 → t = t2)) := by
 refine calls_of_W (args := [.string s]) Tryd.func23 rfl rfl rfl ?_
 have H0 : UpG w [] w [] := UpG.nil w
 show W _ _ _ _ [(0, _)] w
 refine sr (ag rfl (ag rfl (dc (W.seq (W.region (ag rfl (dc (W.seq (W.seq (W.region (ag rfl (dc (W.block ?_)))))))))))))
 have H1 : UpG _ _ _ [[_]] := H0.new' (Upd.nilRowT w (tyI .u8) 5)
 refine W.lp (B := [(3, _), (2, _), (0, _)]) [5, 4, 3, 2, 0] (fun B R L m Γ' w' => ∃ k : Nat, ∃ o : List Int, ∃ a : Option Addr, ∃ c : Nat, Γ' = (5, .int .i64 ((2 * k : Nat) : Int)) :: (4, .slice a o.length c) :: B ∧ UpG w L w' ([rowT (tyI .u8) (.slice a o.length c) 5 o] :: R) ∧ (2 * k ≤ s.size + 1) ∧ (RbI s o k) ∧ m = s.size + 1 - 2 * k) (s.size + 1 - 2 * 0) ⟨0, ([] : List Int), none, 0, rfl, H1, (by omega), (by exact RbI.start s), rfl⟩ rfl ?_
 rintro m1 Γ1 w1 ⟨k, o, a, c, rfl, H2, hk, ho, rfl⟩
 have hl := ho.len
 refine W.seq (W.seq (W.region (mv rfl (oo (d_add rfl rfl (by omega) (by omega) (mv rfl (oo (d_lenStr y9 rfl (oo (d_cmp _ rfl rfl rfl (dc ?_)))))))))))
 refine W.ite rfl (fun c59 => ?_) (fun c59 => ?_)
 · refine sc (W.seq (W.block (W.seq (W.region (ag rfl (dc (W.block (W.lp (B := [(5, _), (3, _), (2, _), (0, _)]) [6, 4, 5, 3, 2, 0] (fun B R L m Γ' w' => ∃ b : Nat, ∃ o : List Int, ∃ a : Option Addr, ∃ c : Nat, Γ' = (6, .int .i64 ((b : Nat) : Int)) :: (4, .slice a o.length c) :: B ∧ UpG w L w' ([rowT (tyI .u8) (.slice a o.length c) 5 o] :: R) ∧ (b ≤ 256) ∧ (RbJ s o k b) ∧ m = 256 - b) (256 - 0) ⟨0, o, a, c, rfl, H2, (by first | assumption | omega | simp), (by exact ho.open (by omega)), rfl⟩ rfl ?_))))))))
   rintro m2 Γ2 w2 ⟨b, o_1, a_1, c_1, rfl, H3, hb, hj, rfl⟩
   have hlj := hj.len
   refine W.seq (W.seq (W.region (mv rfl (oo (d_cmp _ rfl rfl rfl (dc ?_))))))
   refine W.ite rfl (fun c60 => ?_) (fun c60 => ?_)
   · refine sc (W.seq (W.block (W.seq (W.regionD mixed (by kernel_rfl) fun hok1 w3 k1 => ?_))))
     have H4 : UpG _ _ _ [[_]] := H3.kept k1
     refine tm hok1 0 rfl rfl (tq hok1 1 rfl rfl (fun _ => d_convI (kd := .u8) y3 y5 rfl (by simp [IntKind.signed, IntKind.bits, IntKind.max]; omega) ⟨rfl, rfl⟩) (tm hok1 5 rfl rfl (tm hok1 6 rfl rfl (tm hok1 7 rfl rfl (tq hok1 8 rfl rfl (fun _ => d_add rfl rfl (by omega) (by omega) ⟨rfl, rfl⟩) (tq hok1 9 rfl rfl (fun _ => d_substrN ((2 * k : Nat) : Int) (((2 * k : Nat) : Int) + 2) (2 * k) ((2 * k) + 2) y9 rfl rfl rfl (.inr ⟨_, rfl⟩) (.inr ⟨_, rfl⟩) (by omega) (by omega) ⟨by omega, by omega, by omega⟩ ⟨rfl, rfl⟩) (wo hok1 2 (lo [_, _, _, _, _] rfl rfl (t_buildSlice (T := (tyI .u8)) (xs := [((b : Nat) : Int)]) (cs := #[.int .u8 ((b : Nat) : Int)]) rfl y69 sz5 rfl rfl rfl rfl (by kernel_rfl) rfl rfl fun w4 u1 => ?_)))))))))
     have H5 : UpG _ _ _ [[_], [_]] := H4.new' u1
     refine ⟨⟨trivial, trivial, trivial, trivial, trivial, trivial⟩, (tr hok1 3 (H5.rdT 1 rfl) rfl rfl (fun _ hC => d_bytesStr y69 y5 y9 rfl hC ⟨rfl, rfl⟩) (wo hok1 4 (lo [_, _, _, _, _] rfl rfl (d_call ok31 rfl (Ret.calls (rhex_any _ w4  (by rw [strOfNums_size]; first | omega | simp)) fun _ w5 p1 => ?_)))))⟩
     obtain ⟨rfl, u2⟩ := p1
     have H6 : UpG _ _ _ [[_], [_]] := H5.call u2
     refine ⟨⟨trivial, trivial, trivial, trivial, trivial, trivial⟩, (tq hok1 10 rfl rfl (fun _ => d_streq rfl rfl ⟨rfl, rfl⟩) (WD.done hok1 rfl (X.then_code ?_)))⟩
     refine W.ite rfl (fun c61 => ?_) (fun c61 => ?_)
     · refine W.region (mv rfl (mv rfl (oo (d_convI (kd := .u8) y3 y5 rfl (by simp [IntKind.signed, IntKind.bits, IntKind.max]; omega) (oo (t_buildSlice (T := (tyI .u8)) (xs := [((b : Nat) : Int)]) (cs := #[.int .u8 ((b : Nat) : Int)]) rfl y69 sz5 rfl rfl rfl rfl (by kernel_rfl) rfl rfl fun w6 u3 => ?_))))))
       have H7 : UpG _ _ _ [[_], [_], [_]] := H6.new' u3
       refine oo (t_append (T := (tyI .u8)) (xs := o_1) (ys := [((b : Nat) : Int)]) rfl y69 sz5 rfl rfl rfl (H7.ownT 0 rfl) (H7.rdT 2 rfl) (by simp; omega) (by simp; omega) fun a1 c1 w7 u4 => ?_)
       have H8 : UpG _ _ _ [[_], [_], []] := (H7.on 0 rfl u4).drop 2
       refine ag rfl (WL.done (X.block_normal (X.then_code (W.region (mv rfl (oo (d_add rfl rfl (by omega) (by omega) (ag rfl (WL.done ?_)))))))))
       exact X.nx [6, 4, 5, 3, 2, 0] (256 - (b + 1)) (by omega) ⟨b + 1, o_1 ++ [((b : Nat) : Int)], a1, c1, rfl, (H8.pm [0] rfl rfl), (by first | assumption | omega | simp), (by first | exact hj.yes (by omega) (by assumption) | exact hj.no (by omega) (by assumption)), rfl⟩ rfl
     · refine W.skip (X.block_normal (X.then_code (W.region (mv rfl (oo (d_add rfl rfl (by omega) (by omega) (ag rfl (WL.done ?_))))))))
       exact X.nx [6, 4, 5, 3, 2, 0] (256 - (b + 1)) (by omega) ⟨b + 1, o_1, a_1, c_1, rfl, (H6.pm [0] rfl rfl), (by first | assumption | omega | simp), (by first | exact hj.yes (by omega) (by assumption) | exact hj.no (by omega) (by assumption)), rfl⟩ rfl
   · refine W.exit (X.then_exit (X.then_exit (X.block_exit (X.block_normal (X.then_code (W.region (mv rfl (oo (d_add rfl rfl (by omega) (by omega) (ag rfl (WL.done ?_)))))))))))
     exact X.nx [5, 4, 3, 2, 0] (s.size + 1 - 2 * (k + 1)) (by omega) ⟨k + 1, o_1, a_1, c_1, rfl, H3, (by omega), (by exact hj.close (by omega) (by omega)), rfl⟩ rfl
 · refine W.exit (X.then_exit (X.then_exit (X.block_exit (X.then_code (W.seq (W.regionD mixed (by kernel_rfl) fun hok2 w8 k2 => ?_))))))
   have H9 : UpG _ _ _ [[_]] := H2.kept k2
   refine tm hok2 0 rfl rfl (tr hok2 1 (H9.rdT 0 rfl) rfl rfl (fun _ hC => d_bytesStr y69 y5 y9 rfl hC ⟨rfl, rfl⟩) (tm hok2 2 rfl rfl (tr hok2 3 (H9.rdT 0 rfl) rfl rfl (fun _ hC => d_bytesStr y69 y5 y9 rfl hC ⟨rfl, rfl⟩) (tm hok2 5 rfl rfl (wo hok2 4 (lo [_, _, _] rfl rfl (d_call ok31 rfl (Ret.calls (rhex_any _ w8  (by rw [strOfNums_size]; first | omega | simp)) fun _ w9 p2 => ?_))))))))
   obtain ⟨rfl, u5⟩ := p2
   have H10 : UpG _ _ _ [[_]] := H9.call u5
   refine ⟨⟨trivial, (H10.rdT 0 rfl), trivial, trivial⟩, (tq hok2 6 rfl rfl (fun _ => d_streq rfl rfl ⟨rfl, rfl⟩) (tq hok2 7 rfl rfl (fun _ => d_assign rfl ⟨rfl, rfl⟩) (tq hok2 8 rfl rfl (fun _ => d_assign rfl ⟨rfl, rfl⟩) (WD.done hok2 rfl (X.then_code (W.ret (X.ret2 rfl rfl rfl ?_)))))))⟩
   exact ⟨strOfNums o, decide ((hexT (strOfNums o) (strOfNums o).size) = s), rfl, H10.noneL, (by rw [strOfNums_size]; omega), (fun t2 h9 => ho.fin (by omega) h9)⟩
end Go.Proofs.YtnjjjmpdikpjaabDoor


/- The walks of functions, printed by wip/tools/gw.py. -/
namespace Go.Proofs.YtnjjjmpdikpjaabDoor
open Go Go.Sx
set_option linter.unusedVariables false
set_option linter.unusedSimpArgs false
set_option maxRecDepth 20000 in
theorem writeString_any (g : Nat) (pv : Value) (ba : Option Addr) (bx : List Int) (bc : Nat) (s : ByteArray) (w : World) (hp : Hp w [blk g #[pv, .slice ba bx.length bc] 71, rowT (tyI .u8) (.slice ba bx.length bc) 5 bx]) (hpv : pv = .pointer none ∨ pv = .pointer (some ⟨g, 0, none⟩)) (hl : bx.length + s.size ≤ 1000000) :
   Calls Tryd.prog 32 #[.pointer (some ⟨g, 0, none⟩), .string s] w (Ret fun v w' => ∃ ba2 : Option Addr, ∃ bc2 : Nat, v = .tuple #[.int .i64 ((s.size : Nat) : Int), .nilIface] ∧ Upd w [blk g #[pv, .slice ba bx.length bc] 71, rowT (tyI .u8) (.slice ba bx.length bc) 5 bx] w' [blk g #[.pointer (some ⟨g, 0, none⟩), .slice ba2 ((bx ++ bytesL s).length) bc2] 71, rowT (tyI .u8) (.slice ba2 ((bx ++ bytesL s).length) bc2) 5 (bx ++ bytesL s)]) := by
 refine calls_of_W (args := [.pointer (some ⟨g, 0, none⟩), .string s]) Tryd.func32 rfl rfl rfl ?_
 have H0 : UpG w _ w [[_], [_]] := (UpG.refl hp).re rfl
 show W _ _ _ _ [(0, _), (1, _)] w
 refine sr (ag rfl (ag rfl (dc (W.seq (W.region (mv rfl (oo (d_call ok45 rfl (Ret.calls (copyCheck_b _ pv ba bx bc w (H0.hpOf 0 rfl)  hpv) fun _ w1 p1 => ?_)))))))))
 obtain ⟨rfl, u1⟩ := p1
 have H1 : UpG _ _ _ [[_], [_]] := H0.on 0 rfl u1
 refine dc (W.seq (W.region (mv rfl (mv rfl (oo (d_nilCheck rfl (oo (d_fieldAddrB fld71_1 rfl rfl (oo (d_loadB y69 rfl rfl (H1.blk 0 rfl) rfl (mv rfl (oo (t_appendStr y69 y9 sz5 rfl rfl (H1.ownT 1 rfl) (by omega) fun a1 c1 w2 u2 => ?_)))))))))))))
 have H2 : UpG _ _ _ [[_], [_]] := H1.on 1 rfl u2
 refine oo (d_nilCheck rfl (oo (d_fieldAddrB fld71_1 rfl rfl (WL.op0 (d_storeB sz69 rfl rfl rfl (H2.blk 0 rfl) rfl fun w3 u3 => ?_)))))
 have H3 : UpG _ _ _ [[_], [_]] := H2.on 0 rfl u3
 refine dc (W.seq (W.region (mv rfl (oo (d_lenStr y9 rfl (ag rfl (ag rfl (dc (W.ret (X.ret2 rfl rfl rfl ?_))))))))))
 exact ⟨a1, c1, rfl, (Upd.sel H3 (l := [0, 1]) rfl rfl)⟩

set_option maxRecDepth 20000 in
theorem writeByte_any (g : Nat) (pv : Value) (ba : Option Addr) (bx : List Int) (bc : Nat) (z : Int) (w : World) (hp : Hp w [blk g #[pv, .slice ba bx.length bc] 71, rowT (tyI .u8) (.slice ba bx.length bc) 5 bx]) (hpv : pv = .pointer none ∨ pv = .pointer (some ⟨g, 0, none⟩)) (hl : bx.length + 1 ≤ 1000000) :
   Calls Tryd.prog 33 #[.pointer (some ⟨g, 0, none⟩), .int .u8 z] w (Ret fun v w' => ∃ ba2 : Option Addr, ∃ bc2 : Nat, v = .nilIface ∧ Upd w [blk g #[pv, .slice ba bx.length bc] 71, rowT (tyI .u8) (.slice ba bx.length bc) 5 bx] w' [blk g #[.pointer (some ⟨g, 0, none⟩), .slice ba2 ((bx ++ [z]).length) bc2] 71, rowT (tyI .u8) (.slice ba2 ((bx ++ [z]).length) bc2) 5 (bx ++ [z])]) := by
 refine calls_of_W (args := [.pointer (some ⟨g, 0, none⟩), .int .u8 z]) Tryd.func33 rfl rfl rfl ?_
 have H0 : UpG w _ w [[_], [_]] := (UpG.refl hp).re rfl
 show W _ _ _ _ [(0, _), (1, _)] w
 refine sr (ag rfl (dc (W.seq (W.region (mv rfl (oo (d_call ok45 rfl (Ret.calls (copyCheck_b _ pv ba bx bc w (H0.hpOf 0 rfl)  hpv) fun _ w1 p1 => ?_))))))))
 obtain ⟨rfl, u1⟩ := p1
 have H1 : UpG _ _ _ [[_], [_]] := H0.on 0 rfl u1
 refine dc (W.seq (W.region (mv rfl (mv rfl (oo (d_nilCheck rfl (oo (d_fieldAddrB fld71_1 rfl rfl (oo (d_loadB y69 rfl rfl (H1.blk 0 rfl) rfl (mv rfl (oo (t_buildSlice (T := (tyI .u8)) (xs := [z]) (cs := #[.int .u8 z]) rfl y69 sz5 rfl rfl rfl rfl (by kernel_rfl) rfl rfl fun w2 u2 => ?_)))))))))))))
 have H2 : UpG _ _ _ [[_], [_], [_]] := H1.new' u2
 refine oo (t_append (T := (tyI .u8)) (xs := bx) (ys := [z]) rfl y69 sz5 rfl rfl rfl (H2.ownT 1 rfl) (H2.rdT 2 rfl) (by simp; omega) (by simp; omega) fun a1 c1 w3 u3 => ?_)
 have H3 : UpG _ _ _ [[_], [_], []] := (H2.on 1 rfl u3).drop 2
 refine oo (d_nilCheck rfl (oo (d_fieldAddrB fld71_1 rfl rfl (WL.op0 (d_storeB sz69 rfl rfl rfl (H3.blk 0 rfl) rfl fun w4 u4 => ?_)))))
 have H4 : UpG _ _ _ [[_], [_], []] := H3.on 0 rfl u4
 refine dc (W.seq (W.region (ag rfl (dc (W.ret (X.ret1 rfl rfl ?_))))))
 exact ⟨a1, c1, rfl, (Upd.sel H4 (l := [0, 1]) rfl rfl)⟩
end Go.Proofs.YtnjjjmpdikpjaabDoor


/- The walks of functions, printed by wip/tools/gw.py. -/
namespace Go.Proofs.YtnjjjmpdikpjaabDoor
open Go Go.Sx
set_option linter.unusedVariables false
set_option linter.unusedSimpArgs false
set_option maxRecDepth 20000 in
theorem few_any (la : Option Addr) (l : List RawP) (lc : Nat) (w : World) (rl : RdT tyRawP w (.slice la l.length lc) l) (dl : inRaw.Rd w l) (hcap : ∀ p, p ∈ l → p.d.nums.length ≤ p.c) :
   Calls Tryd.prog 10 #[.slice la l.length lc] w (Ret fun v w' => ∃ a2 : Option Addr, ∃ c2 : Nat, v = .slice a2 ((fewL l).length) c2 ∧ Upd w [] w' [rowT tyRawP (.slice a2 ((fewL l).length) c2) 25 (fewL l)]) := by
 have le_rl := rl.le
 refine calls_of_W (args := [.slice la l.length lc]) Tryd.func10 rfl rfl rfl ?_
 have H0 : UpG w [] w [] := UpG.nil w
 show W _ _ _ _ [(0, _)] w
 refine sr (ag rfl (dc (W.seq (W.region (ag rfl (dc (W.seq (W.seq (W.region (ag rfl (dc (W.block ?_))))))))))))
 have H1 : UpG _ _ _ [[_]] := H0.new' (Upd.nilRowT w tyRawP 25)
 refine W.lp (B := [(2, _), (0, _)]) [4, 3, 2, 0] (fun B R L m Γ' w' => ∃ k : Nat, ∃ qs : List RawP, ∃ qa : Option Addr, ∃ qc : Nat, Γ' = (4, .int .i64 ((k : Nat) : Int)) :: (3, .slice qa qs.length qc) :: B ∧ UpG w L w' ([rowT tyRawP (.slice qa qs.length qc) 25 qs] :: R) ∧ (k ≤ l.length ∧ k ≤ 12) ∧ (qs = (l.take k).map fewP) ∧ (qs.length ≤ 12) ∧ m = 12 - k) (12 - 0) ⟨0, ([] : List RawP), none, 0, rfl, H1, (by omega), (by simp), (by simp), rfl⟩ rfl ?_
 rintro m1 Γ1 w1 ⟨k, qs, qa, qc, rfl, H2, hk, hq, hql, rfl⟩
 refine W.seq (W.seq (W.region (mv rfl (mv rfl (oo (d_lenS y33 rfl (oo (d_cmp _ rfl rfl rfl (mv rfl ?_)))))))))
 refine WL.part 9 rfl (fun g27 => ?_) (fun g27 => ?_)
 · refine WL.opG rfl rfl rfl (d_move rfl (WL.opG rfl rfl rfl (d_cmp _ rfl rfl rfl (oo (d_pick rfl rfl (dc ?_))))))
   refine W.ite rfl (fun c27 => ?_) (fun c27 => ?_)
   · refine sc (W.seq (W.block (W.regionD mixed (by kernel_rfl) fun hok1 w2 k1 => ?_)))
     have H3 : UpG _ _ _ [[_]] := H2.kept k1
     refine tm hok1 0 rfl rfl (tm hok1 1 rfl rfl (tm hok1 2 rfl rfl (tr hok1 3 (rl.at H3) rfl rfl (fun _ hC => t_addrN k (T := tyRawP) rfl y33 sz25 rfl rfl hC rfl (by omega) ⟨rfl, rfl⟩) (tr hok1 4 (rl.at H3) rfl rfl (fun _ hC => t_fld k rawP0 (T := tyRawP) rfl fld25_0 rfl rfl hC (by omega) ⟨rfl, rfl⟩) (tr hok1 5 (rl.at H3) rfl rfl (fun _ hC => t_loadF k rawP0 (T := tyRawP) rfl rfl y23 rfl rfl hC (by omega) rfl ⟨rfl, rfl⟩) (tm hok1 6 rfl rfl (tm hok1 7 rfl rfl (tr hok1 8 (rl.at H3) rfl rfl (fun _ hC => t_addrN k (T := tyRawP) rfl y33 sz25 rfl rfl hC rfl (by omega) ⟨rfl, rfl⟩) (tr hok1 9 (rl.at H3) rfl rfl (fun _ hC => t_fld k rawP0 (T := tyRawP) rfl fld25_0 rfl rfl hC (by omega) ⟨rfl, rfl⟩) (tr hok1 10 (rl.at H3) rfl rfl (fun _ hC => t_loadF k rawP0 (T := tyRawP) rfl rfl y23 rfl rfl hC (by omega) rfl ⟨rfl, rfl⟩) (tq hok1 11 rfl rfl (fun _ => d_lenS y23 rfl ⟨rfl, rfl⟩) (tq hok1 12 rfl rfl (fun _ => d_min rfl rfl ⟨rfl, rfl⟩) (tq hok1 13 rfl rfl (fun _ => t_take (min ((((l.getD k rawP0).d.nums).length : Nat) : Int) 6) ((min ((((l.getD k rawP0).d.nums).length : Nat) : Int) 6).toNat) (T := (tyI .i64)) (xs := ((l.getD k rawP0).d.nums)) rfl y23 sz3 rfl rfl (by omega) (by omega) (by have := hcap _ (getD_mem' (d := rawP0) (show k < l.length by omega)); omega) ⟨rfl, rfl⟩) (tm hok1 14 rfl rfl (tm hok1 15 rfl rfl (tr hok1 16 (rl.at H3) rfl rfl (fun _ hC => t_addrN k (T := tyRawP) rfl y33 sz25 rfl rfl hC rfl (by omega) ⟨rfl, rfl⟩) (tr hok1 17 (rl.at H3) rfl rfl (fun _ hC => t_fld k rawP0 (T := tyRawP) rfl fld25_1 rfl rfl hC (by omega) ⟨rfl, rfl⟩) (tr hok1 18 (rl.at H3) rfl rfl (fun _ hC => t_loadF k rawP0 (T := tyRawP) rfl rfl y9 rfl rfl hC (by omega) rfl ⟨rfl, rfl⟩) (tm hok1 19 rfl rfl (tm hok1 20 rfl rfl (tr hok1 21 (rl.at H3) rfl rfl (fun _ hC => t_addrN k (T := tyRawP) rfl y33 sz25 rfl rfl hC rfl (by omega) ⟨rfl, rfl⟩) (tr hok1 22 (rl.at H3) rfl rfl (fun _ hC => t_fld k rawP0 (T := tyRawP) rfl fld25_1 rfl rfl hC (by omega) ⟨rfl, rfl⟩) (tr hok1 23 (rl.at H3) rfl rfl (fun _ hC => t_loadF k rawP0 (T := tyRawP) rfl rfl y9 rfl rfl hC (by omega) rfl ⟨rfl, rfl⟩) ?_)))))))))))))))))))))))
     refine tq hok1 24 rfl rfl (fun _ => d_lenStr y9 rfl ⟨rfl, rfl⟩) (tq hok1 25 rfl rfl (fun _ => d_min rfl rfl ⟨rfl, rfl⟩) (tq hok1 26 rfl rfl (fun _ => d_substrN 0 (min ((((l.getD k rawP0).d.text).size : Nat) : Int) 30) 0 ((min ((((l.getD k rawP0).d.text).size : Nat) : Int) 30).toNat) y9 rfl rfl rfl (.inl ⟨rfl, rfl⟩) (.inr ⟨_, rfl⟩) (by omega) (by omega) ⟨by omega, by omega, by omega⟩ ⟨rfl, rfl⟩) (tq hok1 27 rfl rfl (fun _ => d_build (cs := #[.slice ((l.getD k rawP0).a) ((((l.getD k rawP0).d.nums).take ((min ((((l.getD k rawP0).d.nums).length : Nat) : Int) 6).toNat)).length) ((l.getD k rawP0).c), .string (((l.getD k rawP0).d.text).extract 0 ((min ((((l.getD k rawP0).d.text).size : Nat) : Int) 30).toNat))]) rfl (by kernel_rfl) ⟨rfl, rfl⟩) (wo hok1 28 (lo [_] rfl rfl (t_buildSlice (T := tyRawP) (xs := ([⟨(l.getD k rawP0).a, (l.getD k rawP0).c, ⟨((l.getD k rawP0).d.nums).take ((min ((((l.getD k rawP0).d.nums).length : Nat) : Int) 6).toNat), ((l.getD k rawP0).d.text).extract 0 ((min ((((l.getD k rawP0).d.text).size : Nat) : Int) 30).toNat)⟩⟩] : List RawP)) (cs := #[.slice ((l.getD k rawP0).a) ((((l.getD k rawP0).d.nums).take ((min ((((l.getD k rawP0).d.nums).length : Nat) : Int) 6).toNat)).length) ((l.getD k rawP0).c), .string (((l.getD k rawP0).d.text).extract 0 ((min ((((l.getD k rawP0).d.text).size : Nat) : Int) 30).toNat))]) rfl y33 sz25 rfl rfl rfl rfl (by kernel_rfl) rfl rfl fun w3 u1 => ?_))))))
     have H4 : UpG _ _ _ [[_], [_]] := H3.new' u1
     refine ⟨⟨trivial, trivial⟩, (wo hok1 29 (lo [] rfl rfl (t_append (T := tyRawP) (xs := qs) (ys := ([⟨(l.getD k rawP0).a, (l.getD k rawP0).c, ⟨((l.getD k rawP0).d.nums).take ((min ((((l.getD k rawP0).d.nums).length : Nat) : Int) 6).toNat), ((l.getD k rawP0).d.text).extract 0 ((min ((((l.getD k rawP0).d.text).size : Nat) : Int) 30).toNat)⟩⟩] : List RawP)) rfl y33 sz25 rfl rfl rfl (H4.ownT 0 rfl) (H4.rdT 1 rfl) (by simp; omega) (by simp; omega) fun a1 c1 w4 u2 => ?_)))⟩
     have H5 : UpG _ _ _ [[_], []] := (H4.on 0 rfl u2).drop 1
     refine ⟨trivial, (tq hok1 30 rfl rfl (fun _ => d_assign rfl ⟨rfl, rfl⟩) (WD.done hok1 rfl (X.block_normal (X.then_code (W.pick [3, 11, 10, 4, 2, 0] (Γ' := [(3, _), (11, _), (10, _), (4, _), (2, _), (0, _)]) rfl (W.region (mv rfl (oo (d_add rfl rfl (by omega) (by omega) (ag rfl (WL.done ?_)))))))))))⟩
     exact X.nx [4, 3, 2, 0] (12 - (k + 1)) (by omega) ⟨k + 1, qs ++ ([⟨(l.getD k rawP0).a, (l.getD k rawP0).c, ⟨((l.getD k rawP0).d.nums).take ((min ((((l.getD k rawP0).d.nums).length : Nat) : Int) 6).toNat), ((l.getD k rawP0).d.text).extract 0 ((min ((((l.getD k rawP0).d.text).size : Nat) : Int) 30).toNat)⟩⟩] : List RawP), a1, c1, rfl, (H5.re rfl), (by omega), (by rw [hq, fewL_snoc l (by omega)]; rfl), (by rw [List.length_append, hq]; simp; omega), rfl⟩ rfl
   · refine W.exit (X.then_exit (X.then_exit (X.block_exit (X.then_code (W.seq (W.region (mv rfl (ag rfl (dc (W.ret (X.ret1 rfl rfl ?_)))))))))))
     have e : qs = fewL l := by rw [hq]; first | exact fewL_end (by omega) (by omega) (by omega) | exact fewL_end (by omega) (by omega) (by intro h9; omega)
     subst e
     exact ⟨qa, qc, (by rfl), (by have hh := H2.one 0 rfl; exact hh)⟩
 · refine WL.opN rfl rfl rfl rfl (WL.opN rfl rfl rfl rfl (oo (d_pick rfl rfl (dc (W.iff rfl (W.exit (X.then_exit (X.then_exit (X.block_exit (X.then_code (W.seq (W.region (mv rfl (ag rfl (dc (W.ret (X.ret1 rfl rfl ?_)))))))))))))))))
   have e : qs = fewL l := by rw [hq]; first | exact fewL_end (by omega) (by omega) (by omega) | exact fewL_end (by omega) (by omega) (by intro h9; omega)
   subst e
   exact ⟨qa, qc, (by rfl), (by have hh := H2.one 0 rfl; exact hh)⟩

set_option maxRecDepth 20000 in
theorem line_any (r : RawD) (ra : Option Addr) (rc : Nat) (w : World) (rr : RdT (tyI .i64) w (.slice ra r.nums.length rc) r.nums) (lw : Laid w) (hcap : r.nums.length ≤ rc) (hok : okL r.nums) (hnl : r.nums.length ≤ 1000) (htl : r.text.size ≤ 100000) :
   Calls Tryd.prog 11 #[.agg #[.slice ra r.nums.length rc, .string r.text]] w (Ret fun v w' => v = .tuple #[.string ((lineC r).1), .int .i64 ((lineC r).2)] ∧ Upd w [] w' []) := by
 have hdl := (by simp : (r.nums.drop 1).length = r.nums.length - 1)
 have h61 := eqs_size
 have le_rr := rr.le
 refine calls_of_W (args := [.agg #[.slice ra r.nums.length rc, .string r.text]]) Tryd.func11 rfl rfl rfl ?_
 have H0 : UpG w [] w [] := UpG.nil w
 show W _ _ _ _ [(0, _)] w
 refine sr (oo (d_box rfl fun w1 u1 => ?_))
 have H1 : UpG _ _ _ [[_]] := H0.new' u1
 refine ag rfl (ag rfl (dc (W.seq (W.seq (W.region (oo (d_loadAB [_, _] y25 rfl sz25 rfl (H1.blk 0 rfl) rfl rfl (oo (d_call ok20 rfl (Ret.calls (opOf_any r ra rc w1 (rr.at H1) ) fun _ w2 p1 => ?_))))))))))
 obtain ⟨rfl, u2⟩ := p1
 have H2 : UpG _ _ _ [[_]] := H1.call u2
 refine mv rfl (oo (d_extract rfl rfl (oo (d_extract rfl rfl (oo (d_alloc sz54 fun w3 u3 => ?_))))))
 have H3 : UpG _ _ _ [[_], [_]] := H2.new' u3
 refine WL.op0 (d_storeAB (us := [_, _, _, _, _]) (cs' := #[_, _, _, _, _]) sz54 rfl rfl rfl rfl (H3.blk 1 rfl) rfl rfl fun w4 u4 => ?_)
 have H4 : UpG _ _ _ [[_], [_]] := H3.on 1 rfl u4
 refine ag rfl (dc (W.seq (W.region (mv rfl (oo (d_cmp _ rfl rfl rfl (dc ?_)))))))
 refine W.ite rfl (fun c16 => ?_) (fun c16 => ?_)
 · refine sr (mv rfl (ag rfl (ag rfl (dc (W.ret (X.then_ret (X.ret2 rfl rfl rfl ?_)))))))
   have e9 : lineC r = (⟨#[]⟩, (ofR r).2) := by unfold lineC; rw [if_neg (by simpa using c16)]
   exact ⟨(by rw [e9]; try rfl), H4.noneL⟩
 · refine sc (W.seq ?_)
   have ho : (ofR r).2 = 0 := by simpa using c16
   obtain ⟨ho1, ho2⟩ := of_ok ho
   refine W.region (oo (d_fieldAddrB fld25_0 rfl rfl (oo (d_loadB y23 rfl rfl (H4.blk 0 rfl) rfl (oo (t_addr1 0 (T := (tyI .i64)) rfl y23 sz3 rfl rfl (rr.at H4) rfl (by omega) (oo (t_load1 0 0 (T := (tyI .i64)) rfl y3 rfl rfl (rr.at H4) (by omega) rfl (oo (d_call ok25 rfl (Ret.calls (name_any _ w4  ) fun _ w5 p2 => ?_)))))))))))
   obtain ⟨rfl, u5⟩ := p2
   have H5 : UpG _ _ _ [[_], [_]] := H4.call u5
   refine oo (t_buildSlice (T := tyS) (xs := [(opRowAt (r.nums.getD 0 0)).name]) (cs := #[.string ((opRowAt (r.nums.getD 0 0)).name)]) rfl y48 sz9 rfl rfl rfl rfl (by kernel_rfl) rfl rfl fun w6 u6 => ?_)
   have H6 : UpG _ _ _ [[_], [_], [_]] := H5.new' u6
   refine ag rfl (dc (W.seq (W.seq (W.region (oo (d_fieldAddrB fld25_0 rfl rfl (oo (d_loadB y23 rfl rfl (H6.blk 0 rfl) rfl (oo (t_sufR 1 (T := (tyI .i64)) (xs := r.nums) rfl y23 sz3 rfl rfl rr rfl (by omega) (by omega) fun sa1 sc1 rs1 => (oo (d_lenS y23 rfl (mv rfl (dc (W.block ?_)))))))))))))))
   have H7 : UpG _ _ _ [[_], [_], [_]] := H6.pm [2, 0, 1] rfl rfl
   refine W.lp (B := [(26, _), (25, _), (3, _), (2, _), (1, _)]) [27, 6, 26, 25, 3, 2, 1] (fun B R L m Γ' w' => ∃ k : Nat, ∃ xs : List ByteArray, ∃ xa : Option Addr, ∃ xc : Nat, Γ' = (27, .int .i64 ((k : Nat) : Int)) :: (6, .slice xa xs.length xc) :: B ∧ UpG w L w' ([rowT tyS (.slice xa xs.length xc) 9 xs] :: R) ∧ (k ≤ (r.nums.drop 1).length) ∧ (xs = (opRowAt (r.nums.getD 0 0)).name :: ((r.nums.drop 1).take k).map numB) ∧ (xs.length ≤ k + 1) ∧ m = (r.nums.drop 1).length - k) ((r.nums.drop 1).length - 0) ⟨0, [(opRowAt (r.nums.getD 0 0)).name], (some ⟨w5.heap.size, 0, none⟩), [(opRowAt (r.nums.getD 0 0)).name].length, rfl, H7, (by simp), (by simp), (by simp), rfl⟩ rfl ?_
   rintro m1 Γ1 w7 ⟨k, xs, xa, xc, rfl, H8, hk, hxs, hxl, rfl⟩
   refine sr (oo (d_cmp _ rfl rfl rfl (dc (W.seq ?_))))
   refine W.ite rfl (fun c20 => ?_) (fun c20 => ?_)
   · refine sc (W.seq (W.block (W.seq (W.region (oo (t_addr1 k (T := (tyI .i64)) rfl y23 sz3 rfl rfl (rs1.at H8) rfl (by omega) (oo (t_load1 k 0 (T := (tyI .i64)) rfl y3 rfl rfl (rs1.at H8) (by omega) rfl (ag rfl (dc (W.region (mv rfl (mv rfl (oo (d_call ok26 rfl (Ret.calls (itoa_any _ w7  (lw.at H8) (hok _ (List.mem_of_mem_drop (getD_mem' (by omega))))) fun _ w8 p3 => ?_))))))))))))))))
     obtain ⟨rfl, u7⟩ := p3
     have H9 : UpG _ _ _ [[_], [_], [_]] := H8.call u7
     refine oo (t_buildSlice (T := tyS) (xs := [numB ((r.nums.drop 1).getD k 0)]) (cs := #[.string (numB ((r.nums.drop 1).getD k 0))]) rfl y48 sz9 rfl rfl rfl rfl (by kernel_rfl) rfl rfl fun w9 u8 => ?_)
     have H10 : UpG _ _ _ [[_], [_], [_], [_]] := H9.new' u8
     refine oo (t_append (T := tyS) (xs := xs) (ys := [numB ((r.nums.drop 1).getD k 0)]) rfl y48 sz9 rfl rfl rfl (H10.ownT 0 rfl) (H10.rdT 3 rfl) (by simp; omega) (by simp; omega) fun a1 c1 w10 u9 => ?_)
     have H11 : UpG _ _ _ [[_], [_], [_], []] := (H10.on 0 rfl u9).drop 3
     refine ag rfl (WL.done (X.block_normal (X.then_code (W.region (oo (d_add rfl rfl (by omega) (by omega) (mv rfl (WL.done ?_))))))))
     exact X.nx [27, 6, 26, 25, 3, 2, 1] ((r.nums.drop 1).length - (k + 1)) (by omega) ⟨k + 1, xs ++ [numB ((r.nums.drop 1).getD k 0)], a1, c1, rfl, (H11.re rfl), (by omega), (by rw [hxs, take_snoc (r.nums.drop 1) 0 (by omega), List.map_append]; rfl), (by simp; omega), rfl⟩ rfl
   · refine W.exit (X.then_exit (X.then_exit (X.block_exit (X.then_code ?_))))
     refine W.ct (B := [(3, _), (2, _)]) (R := [[_], [_]]) [3, 2] 1 rfl H8 rfl (fun B R L Γ' w' => ∃ ws : List ByteArray, ∃ wa : Option Addr, ∃ wc : Nat, Γ' = (6, .slice wa ws.length wc) :: B ∧ UpG w L w' ([rowT tyS (.slice wa ws.length wc) 9 ws] :: R) ∧ (ws = lineW r)) ?_ ?_
     · refine sr (oo (d_fieldAddrB fld25_1 rfl rfl (oo (d_loadB y9 rfl rfl (H8.blk 1 rfl) rfl (oo (d_strne rfl rfl (dc ?_)))))))
       refine W.ite rfl (fun c23 => ?_) (fun c23 => ?_)
       · refine W.region (mv rfl (oo (d_fieldAddrB fld25_1 rfl rfl (oo (d_loadB y9 rfl rfl (H8.blk 1 rfl) rfl (oo (d_call ok27 rfl (Ret.calls (hex_any _ w7  (by omega)) fun _ w11 p4 => ?_))))))))
         obtain ⟨rfl, u10⟩ := p4
         have H12 : UpG _ _ _ [[_], [_], [_]] := H8.call u10
         refine oo (d_concat rfl rfl (by first | (simp; omega) | (rw [strOfNums_size, hexI_len]; omega)) (oo (t_buildSlice (T := tyS) (xs := [(⟨#[61]⟩ : ByteArray) ++ (strOfNums (hexI r.text r.text.size))]) (cs := #[.string ((⟨#[61]⟩ : ByteArray) ++ (strOfNums (hexI r.text r.text.size)))]) rfl y48 sz9 rfl rfl rfl rfl (by kernel_rfl) rfl rfl fun w12 u11 => ?_)))
         have H13 : UpG _ _ _ [[_], [_], [_], [_]] := H12.new' u11
         refine oo (t_append (T := tyS) (xs := xs) (ys := [(⟨#[61]⟩ : ByteArray) ++ (strOfNums (hexI r.text r.text.size))]) rfl y48 sz9 rfl rfl rfl (H13.ownT 0 rfl) (H13.rdT 3 rfl) (by first | (simp; omega) | (rw [strOfNums_size, hexI_len]; omega)) (by first | (simp; omega) | (rw [strOfNums_size, hexI_len]; omega)) fun a2 c2 w13 u12 => ?_)
         have H14 : UpG _ _ _ [[_], [_], [_], []] := (H13.on 0 rfl u12).drop 3
         refine ag rfl (WL.done ?_)
         exact X.cu [6, 3, 2] ⟨xs ++ [(⟨#[61]⟩ : ByteArray) ++ (strOfNums (hexI r.text r.text.size))], a2, c2, rfl, (H14.re rfl), (by rw [hxs, hex_hexS]; unfold lineW tailW; rw [List.take_of_length_le (by simp; omega), if_neg (by simpa using c23)]; rfl)⟩ rfl
       · refine W.skip ?_
         exact X.cu [6, 3, 2] ⟨xs, xa, xc, rfl, H8, (by rw [hxs]; unfold lineW tailW; rw [List.take_of_length_le (by simp; omega), if_pos (by simpa using c23), List.append_nil])⟩ rfl
     rintro Γ2 w14 ⟨ws, wa, wc, rfl, H15, hws⟩
     refine W.seq ?_
     have hjs := lineW_size hok hnl htl
     rw [← hws] at hjs
     refine W.region (mv rfl (oo (d_call ok28 rfl (Ret.calls (joinW_any ws wa wc w14 (H15.hpOf 0 rfl)  (by omega) hjs.2.2 (by omega)) fun _ w15 p5 => ?_))))
     obtain ⟨rfl, u13⟩ := p5
     have H16 : UpG _ _ _ [[_], [_], [_]] := H15.on 0 rfl u13
     refine ag rfl (ag rfl (dc (W.ret (X.ret2 rfl rfl rfl ?_))))
     have e9 : lineC r = (joinW (lineW r), 0) := by unfold lineC; rw [if_pos ho]
     exact ⟨(by rw [e9, hws]; try rfl), H16.noneL⟩

set_option maxRecDepth 20000 in
theorem refLine_any (r : RawD) (ra : Option Addr) (rc : Nat) (w : World) (rr : RdT (tyI .i64) w (.slice ra r.nums.length rc) r.nums) (hok : okL r.nums) (hnl : r.nums.length ≤ 1000) (htl : r.text.size ≤ 100000) :
   Calls Tryd.prog 12 #[.agg #[.slice ra r.nums.length rc, .string r.text]] w (Ret fun v w' => v = .tuple #[.string ((lineC r).1), .int .i64 ((lineC r).2)] ∧ Upd w [] w' []) := by
 have hlen24 : opNames.length = 24 := rfl
 have h32 := sp_size
 have h3261 := spe_size
 have le_rr := rr.le
 refine calls_of_W (args := [.agg #[.slice ra r.nums.length rc, .string r.text]]) Tryd.func12 rfl rfl rfl ?_
 have H0 : UpG w [] w [] := UpG.nil w
 show W _ _ _ _ [(0, _)] w
 refine sr (oo (d_box rfl fun w1 u1 => ?_))
 have H1 : UpG _ _ _ [[_]] := H0.new' u1
 refine ag rfl (ag rfl (dc (W.seq (W.region (oo (d_loadAB [_, _] y25 rfl sz25 rfl (H1.blk 0 rfl) rfl rfl (oo (d_call ok29 rfl (Ret.calls (refOf_any r ra rc w1 (rr.at H1) ) fun _ w2 p1 => ?_)))))))))
 obtain ⟨rfl, u2⟩ := p1
 have H2 : UpG _ _ _ [[_]] := H1.call u2
 refine mv rfl (oo (d_extract rfl rfl (oo (d_extract rfl rfl (oo (d_alloc sz54 fun w3 u3 => ?_))))))
 have H3 : UpG _ _ _ [[_], [_]] := H2.new' u3
 refine WL.op0 (d_storeAB (us := [_, _, _, _, _]) (cs' := #[_, _, _, _, _]) sz54 rfl rfl rfl rfl (H3.blk 1 rfl) rfl rfl fun w4 u4 => ?_)
 have H4 : UpG _ _ _ [[_], [_]] := H3.on 1 rfl u4
 refine ag rfl (dc (W.seq (W.seq (W.region (mv rfl (oo (d_cmp _ rfl rfl rfl (dc ?_))))))))
 refine W.ite rfl (fun c13 => ?_) (fun c13 => ?_)
 · refine sr (mv rfl (ag rfl (ag rfl (dc (W.ret (X.then_ret (X.ret2 rfl rfl rfl ?_)))))))
   have e9 : lineC r = (⟨#[]⟩, (ofR r).2) := by unfold lineC; rw [if_neg (by simpa using c13)]
   exact ⟨(by rw [e9]; try rfl), H4.noneL⟩
 · refine sc (W.seq ?_)
   have ho : (ofR r).2 = 0 := by simpa using c13
   obtain ⟨ho1, ho2⟩ := of_ok ho
   have hk1 : (ofR r).1.kind = r.nums.getD 0 0 := of_kind ho
   have hk2 : 1 ≤ r.nums.getD 0 0 ∧ r.nums.getD 0 0 ≤ 24 := by simpa [okK] using ho2
   refine W.regionD mixed (by kernel_rfl) fun hok1 w5 k1 => ?_
   have H5 : UpG _ _ _ [[_], [_]] := H4.kept k1
   refine tq hok1 1 rfl rfl (fun _ => d_fieldAddrB fld54_0 rfl rfl ⟨rfl, rfl⟩) (tb hok1 2 (H5.blk 1 rfl) rfl rfl (fun _ hC => d_loadB y3 rfl rfl hC rfl ⟨rfl, rfl⟩) (tq hok1 3 rfl rfl (fun _ => d_sub rfl rfl (by omega) (by omega) ⟨rfl, rfl⟩) (wo hok1 0 (lo [_, _, _] rfl rfl (d_call ok22 rfl (Ret.calls (names_any  w5  ) fun _ w6 p2 => ?_))))))
   obtain ⟨a2_1, c2_1, rfl, u5⟩ := p2
   have H6 : UpG _ _ _ [[_], [_], [_]] := (H5.new' u5).re rfl
   refine ⟨⟨trivial, (H6.blk 1 rfl), trivial, trivial⟩, (tr hok1 4 (H6.rdT 2 rfl) rfl rfl (fun _ hC => t_addr1 (((ofR r).1.kind - 1).toNat) (T := tyS) rfl y48 sz9 rfl rfl hC (by omega) (by omega) ⟨rfl, rfl⟩) (tr hok1 5 (H6.rdT 2 rfl) rfl rfl (fun _ hC => t_load1 (((ofR r).1.kind - 1).toNat) .empty (T := tyS) rfl y9 rfl rfl hC (by omega) rfl ⟨rfl, rfl⟩) (tq hok1 6 rfl rfl (fun _ => d_assign rfl ⟨rfl, rfl⟩) (WD.done hok1 rfl (X.then_code (W.seq (W.seq (W.region (ag rfl (dc (W.block (W.lp (B := [(3, _), (2, _), (1, _)]) [7, 6, 3, 2, 1] (fun B R L m Γ' w' => ∃ k : Nat, ∃ o : ByteArray, Γ' = (7, .int .i64 ((k + 1 : Nat) : Int)) :: (6, .string o) :: B ∧ UpG w L w' (R) ∧ (k + 1 ≤ r.nums.length) ∧ (o = joinW ((opRowAt (r.nums.getD 0 0)).name :: ((r.nums.drop 1).take k).map numB)) ∧ m = r.nums.length - k) (r.nums.length - 0) ⟨0, opNames.getD (((ofR r).1.kind - 1).toNat) .empty, rfl, H6, (by omega), (by rw [hk1, ← row_name hk2]; simp [joinW_one]), rfl⟩ rfl ?_))))))))))))⟩
   rintro m1 Γ1 w7 ⟨k, o, rfl, H7, hk, ho9, rfl⟩
   refine W.seq (W.seq (W.region (mv rfl (oo (d_fieldAddrB fld25_0 rfl rfl (oo (d_loadB y23 rfl rfl (H7.blk 0 rfl) rfl (oo (d_lenS y23 rfl (oo (d_cmp _ rfl rfl rfl (dc ?_))))))))))))
   refine W.ite rfl (fun c17 => ?_) (fun c17 => ?_)
   · refine sc (W.seq (W.block ?_))
     have hps := line_part_size hok hnl k
     rw [← ho9] at hps
     have hn1 : i64ok (r.nums.getD (k + 1) 0) := hok _ (getD_mem' (by omega))
     have hn2 := numB_size20 hn1
     refine W.region (mv rfl (oo (d_concat rfl rfl (by first | omega | (rw [ByteArray.size_append]; omega)) (oo (d_fieldAddrB fld25_0 rfl rfl (oo (d_loadB y23 rfl rfl (H7.blk 0 rfl) rfl (mv rfl (oo (t_addr1 (k + 1) (T := (tyI .i64)) rfl y23 sz3 rfl rfl (rr.at H7) rfl (by omega) (oo (t_load1 (k + 1) 0 (T := (tyI .i64)) rfl y3 rfl rfl (rr.at H7) (by omega) rfl (oo (d_call ok30 rfl (Ret.calls (number_any _ w7  hn1) fun _ w8 p3 => ?_)))))))))))))))
     obtain ⟨rfl, u6⟩ := p3
     have H8 : UpG _ _ _ [[_], [_], [_]] := H7.call u6
     refine oo (d_concat rfl rfl (by first | omega | (rw [ByteArray.size_append]; omega)) (ag rfl (WL.done (X.block_normal (X.then_code (W.region (mv rfl (oo (d_add rfl rfl (by omega) (by omega) (ag rfl (WL.done ?_)))))))))))
     exact X.nx [7, 6, 3, 2, 1] (r.nums.length - (k + 1)) (by omega) ⟨k + 1, (o ++ ⟨#[32]⟩) ++ (numB (r.nums.getD (k + 1) 0)), rfl, H8, (by omega), (by rw [ho9]; exact (line_step (by omega)).symm), rfl⟩ rfl
   · refine W.exit (X.then_exit (X.then_exit (X.block_exit (X.then_code ?_))))
     refine W.ct (B := [(3, _), (2, _)]) (R := [[_], [_], [_]]) [3, 2] 0 rfl H7 rfl (fun B R L Γ' w' => ∃ o : ByteArray, Γ' = (6, .string o) :: B ∧ UpG w L w' (R) ∧ (o = joinW (lineW r))) ?_ ?_
     · refine sr (oo (d_fieldAddrB fld25_1 rfl rfl (oo (d_loadB y9 rfl rfl (H7.blk 0 rfl) rfl (oo (d_lenStr y9 rfl (oo (d_cmp _ rfl rfl rfl (dc ?_)))))))))
       refine W.ite rfl (fun c20 => ?_) (fun c20 => ?_)
       · have hps := line_part_size hok hnl k
         rw [← ho9] at hps
         have hhx := hexS_size r.text
         unfold hexS at hhx
         refine W.region (mv rfl (oo (d_concat rfl rfl (by first | omega | (rw [ByteArray.size_append]; omega)) (oo (d_fieldAddrB fld25_1 rfl rfl (oo (d_loadB y9 rfl rfl (H7.blk 0 rfl) rfl (oo (d_call ok31 rfl (Ret.calls (rhex_any _ w7  (by omega)) fun _ w9 p4 => ?_))))))))))
         obtain ⟨rfl, u7⟩ := p4
         have H9 : UpG _ _ _ [[_], [_], [_]] := H7.call u7
         refine oo (d_concat rfl rfl (by first | omega | (rw [ByteArray.size_append]; omega)) (ag rfl (WL.done ?_)))
         exact X.cu [6, 3, 2] ⟨(o ++ ⟨#[32, 61]⟩) ++ (hexT r.text r.text.size), rfl, H9, (by rw [ho9, spEq]; exact line_finT (k := k) (by omega) (fun h9 => by rw [h9] at c20; exact absurd c20 (by decide)))⟩ rfl
       · refine W.skip ?_
         exact X.cu [6, 3, 2] ⟨o, rfl, H7, (by rw [ho9]; exact line_fin (k := k) (by omega) (nil_eq (by omega)))⟩ rfl
     rintro Γ2 w10 ⟨o_1, rfl, H10, hfin⟩
     refine sr (mv rfl (ag rfl (ag rfl (dc (W.ret (X.ret2 rfl rfl rfl ?_))))))
     have e9 : lineC r = (joinW (lineW r), 0) := by unfold lineC; rw [if_pos ho]
     exact ⟨(by rw [e9, hfin]; try rfl), H10.noneL⟩
end Go.Proofs.YtnjjjmpdikpjaabDoor


/- The walks of functions, printed by wip/tools/gw.py. -/
namespace Go.Proofs.YtnjjjmpdikpjaabDoor
open Go Go.Sx
set_option linter.unusedVariables false
set_option linter.unusedSimpArgs false
set_option maxRecDepth 20000 in
theorem words_any (na : Option Addr) (ns0 : List Int) (nc : Nat) (la : Option Addr) (l : List ByteArray) (lc : Nat) (w : World) (hp : Hp w [rowT (tyI .i64) (.slice na ns0.length nc) 3 ns0, rdC tyS (.slice la l.length lc) l]) (lw : Laid w) (hl1 : l.length ≤ 1000) (hls : ∀ x, x ∈ l → x.size ≤ 100000) (hn0 : ns0.length ≤ 10) (hw0 : LaidK w (ats [rowT (tyI .i64) (.slice na ns0.length nc) 3 ns0, rdC tyS (.slice la l.length lc) l])) :
   Calls Tryd.prog 19 #[.agg #[.slice na ns0.length nc, .string ⟨#[]⟩], .slice la l.length lc] w (Ret fun v w' => ∃ na2 : Option Addr, ∃ nc2 : Nat, ∃ rd : RawD, ∃ ok : Bool, v = .tuple #[.agg #[.slice na2 rd.nums.length nc2, .string rd.text], .bool ok] ∧ Upd w [rowT (tyI .i64) (.slice na ns0.length nc) 3 ns0, rdC tyS (.slice la l.length lc) l] w' [rowT (tyI .i64) (.slice na2 rd.nums.length nc2) 3 rd.nums] ∧ ((ok = true ∧ WdOk ns0 l rd) ∨ (ok = false ∧ WdNo l)) ∧ (rd.nums.length ≤ ns0.length + l.length ∧ rd.text.size ≤ 100000)) := by
 refine calls_of_W (args := [.agg #[.slice na ns0.length nc, .string ⟨#[]⟩], .slice la l.length lc]) Tryd.func19 rfl rfl rfl ?_
 have H0 : UpG w _ w [[_], [_]] := (UpG.refl hp).re rfl
 show W _ _ _ _ [(0, _), (1, _)] w
 refine sr (oo (d_box rfl fun w1 u1 => ?_))
 have H1 : UpG _ _ _ [[_], [_], [_]] := H0.new' u1
 refine oo (d_alloc sz25 fun w2 u2 => ?_)
 have H2 : UpG _ _ _ [[_], [_], [_], [_]] := H1.new' u2
 refine ag rfl (dc (W.seq (W.seq (W.region (mv rfl (oo (d_lenS y48 rfl (mv rfl (dc (W.block ?_))))))))))
 have H3 : UpG _ _ _ [[_], [_], [_], [_]] := H2.pm [0, 2, 1, 3] rfl rfl
 refine W.lp (B := [(13, _), (12, _), (5, _), (4, _), (2, _), (1, _)]) [14, 13, 12, 5, 4, 2, 1] (fun B R L m Γ' w' => ∃ j : Nat, ∃ xs : List Int, ∃ xa : Option Addr, ∃ xc : Nat, ∃ ns : List Int, Γ' = (14, .int .i64 ((j : Nat) : Int)) :: B ∧ UpG w L w' ([rowT (tyI .i64) (.slice xa xs.length xc) 3 xs] :: [blk w.heap.size #[.slice xa xs.length xc, .string ⟨#[]⟩] 25] :: R) ∧ (j ≤ l.length) ∧ (WdI ns0 l j xs ns) ∧ (xs.length = ns0.length + j) ∧ m = l.length - j) (l.length - 0) ⟨0, ns0, na, nc, [], rfl, H3, (by first | assumption | omega | simp), (by exact WdI.start ns0 l), (by rfl), rfl⟩ rfl ?_
 rintro m1 Γ1 w3 ⟨j, xs, xa, xc, ns, rfl, H4, hj, hwd, hxl, rfl⟩
 refine sr (oo (d_cmp _ rfl rfl rfl (dc (W.seq ?_))))
 refine W.ite rfl (fun c31 => ?_) (fun c31 => ?_)
 · refine sc (W.seq (W.block (W.seq (W.region (mv rfl (oo (t_addr1 j (T := tyS) rfl y48 sz9 rfl rfl (H4.rdC 2 rfl) rfl (by omega) (oo (t_load1 j .empty (T := tyS) rfl y9 rfl rfl (H4.rdC 2 rfl) (by omega) rfl (ag rfl (ag rfl (dc ?_))))))))))))
   refine W.ct (B := [(7, _), (14, _), (13, _), (12, _), (5, _), (4, _), (2, _), (1, _)]) (R := [[_], [_], [_], [_]]) [7, 14, 13, 12, 5, 4, 2, 1] 0 rfl H4 rfl (fun B R L Γ' w' => Γ' = B ∧ UpG w L w' (R) ∧ (¬ (eqP (l.getD j .empty) = true ∧ j + 1 = l.length))) ?_ ?_
   · refine W.seq ?_
     have hjl : j < l.length := by omega
     have hwz := hls _ (getD_mem' (d := .empty) hjl)
     refine W.region (mv rfl (oo (d_call ok37 rfl (Ret.calls (eqp_any _ w3  ) fun _ w4 p1 => ?_))))
     obtain ⟨rfl, u3⟩ := p1
     have H5 : UpG _ _ _ [[_], [_], [_], [_]] := H4.call u3
     refine mv rfl ?_
     refine WL.partB 21 rfl (fun g32 => ?_) (fun g32 => ?_)
     · refine WL.opG rfl rfl rfl (d_move rfl (WL.opG rfl rfl rfl (d_move rfl (WL.opG rfl rfl rfl (d_lenS y48 rfl (WL.opG rfl rfl rfl (d_sub rfl rfl (by omega) (by omega) (WL.opG rfl rfl rfl (d_cmp _ rfl rfl rfl (oo (d_pick rfl rfl (dc ?_))))))))))))
       refine W.ite rfl (fun c32 => ?_) (fun c32 => ?_)
       · refine W.seq ?_
         have hw1 := eqP_size g32
         refine W.region (mv rfl (oo (d_substrN 1 (((l.getD j .empty).size : Nat) : Int) 1 ((l.getD j .empty).size) y9 rfl rfl rfl (.inr ⟨_, rfl⟩) (.inl ⟨rfl, rfl⟩) (by omega) (by omega) ⟨by omega, by omega, by omega⟩ (oo (d_call ok38 rfl (Ret.calls (bytes_any _ w4  (by rw [ByteArray.size_extract]; omega)) fun _ w5 p2 => ?_))))))
         obtain ⟨t_1, b_1, rfl, u4, q1, q2⟩ := p2
         have H6 : UpG _ _ _ [[_], [_], [_], [_]] := H5.call u4
         refine mv rfl (oo (d_extract rfl rfl (oo (d_extract rfl rfl (ag rfl (ag rfl (dc (W.seq (W.region (mv rfl (oo (d_fieldAddrB fld25_1 rfl rfl (WL.op0 (d_storeB sz9 rfl rfl rfl (H6.blk 1 rfl) rfl fun w6 u5 => ?_))))))))))))))
         have H7 : UpG _ _ _ [[_], [_], [_], [_]] := H6.on 1 rfl u5
         refine dc (W.pick [9, 8, 5, 4, 2] (Γ' := [(9, _), (8, _), (5, _), (4, _), (2, _)]) rfl (W.seq (W.region (oo (d_loadAB [_, _] y25 rfl sz25 rfl (H7.blk 1 rfl) rfl rfl (mv rfl (mv rfl ?_)))))))
         refine WL.partB 38 rfl (fun g35 => ?_) (fun g35 => ?_)
         · refine WL.opG rfl rfl rfl (d_move rfl (WL.opG rfl rfl rfl (d_strne rfl rfl (oo (d_pick rfl rfl (WL.op0 (d_storeAB (us := [_, _]) (cs' := #[_, _]) sz25 rfl rfl rfl rfl (H7.blk 3 rfl) rfl rfl fun w7 u6 => ?_)))))))
           have H8 : UpG _ _ _ [[_], [_], [_], [_]] := H7.on 3 rfl u6
           refine ag rfl (dc (W.ret (X.then_ret (X.block_ret (X.then_ret (X.then_ret (X.block_ret (X.then_ret (X.retR2 rfl (rv_cellA [.slice xa xs.length xc, .string t_1] y25 rfl sz25 rfl (H8.blk 3 rfl) rfl rfl) (rv_tmp rfl) ?_)))))))))
           exact ⟨xa, xc, ⟨xs, t_1⟩, decide (t_1 ≠ ⟨#[]⟩), (by rfl), (Upd.sel H8 (l := [0]) rfl rfl), (by first | exact wd_endT hwd (by omega) g32 q2 (by assumption) | exact wd_endF hwd (by omega) g32 q2 (by assumption)), ⟨by show xs.length ≤ _; omega, by rw [ByteArray.size_extract] at q1; show t_1.size ≤ _; omega⟩⟩
         · refine WL.opN rfl rfl rfl rfl (WL.opN rfl rfl rfl rfl (oo (d_pick rfl rfl (WL.op0 (d_storeAB (us := [_, _]) (cs' := #[_, _]) sz25 rfl rfl rfl rfl (H7.blk 3 rfl) rfl rfl fun w8 u7 => ?_)))))
           have H9 : UpG _ _ _ [[_], [_], [_], [_]] := H7.on 3 rfl u7
           refine ag rfl (dc (W.ret (X.then_ret (X.block_ret (X.then_ret (X.then_ret (X.block_ret (X.then_ret (X.retR2 rfl (rv_cellA [.slice xa xs.length xc, .string t_1] y25 rfl sz25 rfl (H9.blk 3 rfl) rfl rfl) (rv_tmp rfl) ?_)))))))))
           exact ⟨xa, xc, ⟨xs, t_1⟩, false, (by rfl), (Upd.sel H9 (l := [0]) rfl rfl), (by first | exact wd_endT hwd (by omega) g32 q2 (by assumption) | exact wd_endF hwd (by omega) g32 q2 (by assumption)), ⟨by show xs.length ≤ _; omega, by rw [ByteArray.size_extract] at q1; show t_1.size ≤ _; omega⟩⟩
       · refine W.skip ?_
         exact X.cu [7, 14, 13, 12, 5, 4, 2, 1] ⟨rfl, H5, (by first | exact fun h => g32 h.1 | (intro h; exact c32 (by omega)))⟩ rfl
     · refine WL.opN rfl rfl rfl rfl (WL.opN rfl rfl rfl rfl (WL.opN rfl rfl rfl rfl (WL.opN rfl rfl rfl rfl (WL.opN rfl rfl rfl rfl (oo (d_pick rfl rfl (dc (W.iff rfl (W.skip ?_)))))))))
       exact X.cu [7, 14, 13, 12, 5, 4, 2, 1] ⟨rfl, H5, (by first | exact fun h => g32 h.1 | (intro h; exact c32 (by omega)))⟩ rfl
   rintro Γ2 w9 ⟨rfl, H10, hnp⟩
   refine W.seq ?_
   have hjl : j < l.length := by omega
   have hwz := hls _ (getD_mem' (d := .empty) hjl)
   refine W.region (mv rfl (oo (d_call ok39 rfl (Ret.calls (atoi_any _ w9  (hw0.at H10) (by omega)) fun _ w10 p3 => ?_))))
   obtain ⟨av_1, ev_1, eb_1, rfl, u8, he1, ha1⟩ := p3
   have H11 : UpG _ _ _ [[_], [_], [_], [_]] := H10.call u8
   refine mv rfl (oo (d_extract rfl rfl (oo (d_extract rfl rfl (ag rfl (ag rfl (dc (W.seq (W.seq (W.region (mv rfl (oo (d_ifne (b := eb_1) y73 rfl (by assumption) (mv rfl ?_))))))))))))))
   refine WL.partB 49 rfl (fun g38 => ?_) (fun g38 => ?_)
   · refine WL.opN rfl rfl rfl rfl (WL.opN rfl rfl rfl rfl (WL.opN rfl rfl rfl rfl (WL.opN rfl rfl rfl rfl (oo (d_pick rfl rfl (dc (W.ift rfl (W.seq (W.region (oo (d_loadAB [_, _] y25 rfl sz25 rfl (H11.blk 1 rfl) rfl rfl (WL.op0 (d_storeAB (us := [_, _]) (cs' := #[_, _]) sz25 rfl rfl rfl rfl (H11.blk 3 rfl) rfl rfl fun w11 u9 => ?_)))))))))))))
     have H12 : UpG _ _ _ [[_], [_], [_], [_]] := H11.on 3 rfl u9
     refine ag rfl (dc (W.ret (X.then_ret (X.block_ret (X.then_ret (X.then_ret (X.block_ret (X.then_ret (X.retR2 rfl (rv_cellA [.slice xa xs.length xc, .string ⟨#[]⟩] y25 rfl sz25 rfl (H12.blk 3 rfl) rfl rfl) (rv_tmp rfl) ?_)))))))))
     exact ⟨xa, xc, ⟨xs, ⟨#[]⟩⟩, false, (by rfl), (Upd.sel H12 (l := [0]) rfl rfl), (.inr ⟨rfl, no_word (by omega) hnp (no_num ha1 (by first | exact .inl (by assumption) | exact .inr (by assumption)))⟩), ⟨by show xs.length ≤ _; omega, Nat.zero_le _⟩⟩
   · obtain ⟨ha2, ha3, ha4⟩ := ha1.resolve_right (fun h => g38 h.1)
     refine WL.opG rfl rfl rfl (d_move rfl (WL.opG rfl rfl rfl (d_call ok26 rfl (Ret.calls (itoa_any _ w10  (hw0.at H11) ha4) fun _ w12 p4 => ?_))))
     obtain ⟨rfl, u10⟩ := p4
     have H13 : UpG _ _ _ [[_], [_], [_], [_]] := H11.call u10
     refine WL.opG rfl rfl rfl (d_move rfl (WL.opG rfl rfl rfl (d_strne rfl rfl (oo (d_pick rfl rfl (dc ?_))))))
     refine W.ite rfl (fun c38 => ?_) (fun c38 => ?_)
     · refine sr (oo (d_loadAB [_, _] y25 rfl sz25 rfl (H13.blk 1 rfl) rfl rfl (WL.op0 (d_storeAB (us := [_, _]) (cs' := #[_, _]) sz25 rfl rfl rfl rfl (H13.blk 3 rfl) rfl rfl fun w13 u11 => ?_))))
       have H14 : UpG _ _ _ [[_], [_], [_], [_]] := H13.on 3 rfl u11
       refine ag rfl (dc (W.ret (X.then_ret (X.block_ret (X.then_ret (X.then_ret (X.block_ret (X.then_ret (X.retR2 rfl (rv_cellA [.slice xa xs.length xc, .string ⟨#[]⟩] y25 rfl sz25 rfl (H14.blk 3 rfl) rfl rfl) (rv_tmp rfl) ?_)))))))))
       exact ⟨xa, xc, ⟨xs, ⟨#[]⟩⟩, false, (by rfl), (Upd.sel H14 (l := [0]) rfl rfl), (.inr ⟨rfl, no_word (by omega) hnp (no_num ha1 (by first | exact .inl (by assumption) | exact .inr (by assumption)))⟩), ⟨by show xs.length ≤ _; omega, Nat.zero_le _⟩⟩
     · refine sc (W.region (oo (d_fieldAddrB fld25_0 rfl rfl (oo (d_loadB y23 rfl rfl (H13.blk 1 rfl) rfl (mv rfl (oo (t_buildSlice (T := (tyI .i64)) (xs := [av_1]) (cs := #[.int .i64 av_1]) rfl y23 sz3 rfl rfl rfl rfl (by kernel_rfl) rfl rfl fun w14 u12 => ?_))))))))
       have H15 : UpG _ _ _ [[_], [_], [_], [_], [_]] := H13.new' u12
       refine oo (t_append (T := (tyI .i64)) (xs := xs) (ys := [av_1]) rfl y23 sz3 rfl rfl rfl (H15.ownT 0 rfl) (H15.rdT 4 rfl) (by simp; omega) (by simp; omega) fun a1 c1 w15 u13 => ?_)
       have H16 : UpG _ _ _ [[_], [_], [_], [_], []] := (H15.on 0 rfl u13).drop 4
       refine oo (d_fieldAddrB fld25_0 rfl rfl (WL.op0 (d_storeB sz23 rfl rfl rfl (H16.blk 1 rfl) rfl fun w16 u14 => ?_)))
       have H17 : UpG _ _ _ [[_], [_], [_], [_], []] := H16.on 1 rfl u14
       refine WL.done (X.block_normal (X.then_code (W.region (oo (d_add rfl rfl (by omega) (by omega) (mv rfl (WL.done ?_)))))))
       exact X.nx [14, 13, 12, 5, 4, 2, 1] (l.length - (j + 1)) (by omega) ⟨j + 1, xs ++ [av_1], a1, c1, ns ++ [av_1], rfl, (H17.re rfl), (by first | assumption | omega | simp), (by exact hwd.num (by omega) ha4 (by simpa using c38)), (by simp; omega), rfl⟩ rfl
 · refine W.exit (X.then_exit (X.then_exit (X.block_exit (X.then_code (W.seq (W.region (oo (d_loadAB [_, _] y25 rfl sz25 rfl (H4.blk 1 rfl) rfl rfl (WL.op0 (d_storeAB (us := [_, _]) (cs' := #[_, _]) sz25 rfl rfl rfl rfl (H4.blk 3 rfl) rfl rfl fun w17 u15 => ?_))))))))))
   have H18 : UpG _ _ _ [[_], [_], [_], [_]] := H4.on 3 rfl u15
   refine ag rfl (dc (W.ret (X.retR2 rfl (rv_cellA [.slice xa xs.length xc, .string ⟨#[]⟩] y25 rfl sz25 rfl (H18.blk 3 rfl) rfl rfl) (rv_tmp rfl) ?_)))
   exact ⟨xa, xc, ⟨xs, ⟨#[]⟩⟩, true, (by rfl), (Upd.sel H18 (l := [0]) rfl rfl), (.inl ⟨rfl, hwd.fin (by omega)⟩), ⟨by show xs.length ≤ _; omega, Nat.zero_le _⟩⟩
end Go.Proofs.YtnjjjmpdikpjaabDoor


/- The walks of functions, printed by wip/tools/gw.py. -/
namespace Go.Proofs.YtnjjjmpdikpjaabDoor
open Go Go.Sx
set_option linter.unusedVariables false
set_option linter.unusedSimpArgs false
set_option maxRecDepth 20000 in
theorem read_any (s : ByteArray) (w : World) (lw : Laid w) (hs : s.size ≤ 900) :
   Calls Tryd.prog 7 #[.string s] w (Ret fun v w' => ∃ ra2 : Option Addr, ∃ rc2 : Nat, ∃ rd : RawD, ∃ re : Int, v = .tuple #[.agg #[.slice ra2 rd.nums.length rc2, .string rd.text], .int .i64 re] ∧ Upd w [] w' [rowT (tyI .i64) (.slice ra2 rd.nums.length rc2) 3 rd.nums] ∧ (ReadS s rd re) ∧ (rd.nums.length ≤ 1000 ∧ rd.text.size ≤ 100000)) := by
 have hcl := cutAll_len 32 s
 have hcm := cutAll_mem 32 s
 have hc0 := cutAll_ne 32 s
 have hcd : ((cutAll 32 s).drop 1).length = (cutAll 32 s).length - 1 := by simp
 refine calls_of_W (args := [.string s]) Tryd.func7 rfl rfl rfl ?_
 have H0 : UpG w [] w [] := UpG.nil w
 show W _ _ _ _ [(0, _)] w
 refine sr (oo (d_alloc sz25 fun w1 u1 => ?_))
 have H1 : UpG _ _ _ [[_]] := H0.new' u1
 refine ag rfl (dc (W.seq (W.region (mv rfl (oo (d_call ok17 rfl (Ret.calls (splitW_any _ w1  (lw.at H1) (by omega)) fun _ w2 p1 => ?_)))))))
 obtain ⟨a2_1, c2_1, rfl, u2⟩ := p1
 have H2 : UpG _ _ _ [[_], [_]] := (H1.new' u2).re rfl
 refine ag rfl (dc (W.seq (W.region (mv rfl (oo (t_addr1 0 (T := tyS) rfl y48 sz9 rfl rfl (H2.rdT 1 rfl) rfl (by omega) (oo (t_load1 0 .empty (T := tyS) rfl y9 rfl rfl (H2.rdT 1 rfl) (by omega) rfl (oo (d_call ok18 rfl (Ret.calls (kind_any _ w2  ) fun _ w3 p2 => ?_)))))))))))
 obtain ⟨rfl, u3⟩ := p2
 have H3 : UpG _ _ _ [[_], [_]] := H2.call u3
 refine ag rfl (dc (W.seq (W.seq (W.region (mv rfl (oo (d_cmp _ rfl rfl rfl (dc ?_))))))))
 refine W.ite rfl (fun c50 => ?_) (fun c50 => ?_)
 · refine sr (oo (d_build (cs := #[.slice none 0 0, .string ⟨#[]⟩]) rfl (by kernel_rfl) (WL.op0 (d_storeAB (us := [_, _]) (cs' := #[_, _]) sz25 rfl rfl rfl rfl (H3.blk 0 rfl) rfl rfl fun w4 u4 => ?_))))
   have H4 : UpG _ _ _ [[_], [_]] := H3.on 0 rfl u4
   refine ag rfl (dc (W.ret (X.then_ret (X.retR2 rfl (rv_cellA [.slice none 0 0, .string ⟨#[]⟩] y25 rfl sz25 rfl (H4.blk 0 rfl) rfl rfl) (rv_tmp rfl) ?_))))
   exact ⟨none, 0, raw0, 9, (by rfl), nilOwn H4, (.inr (.inl ⟨rfl, rfl, by unfold w0; omega⟩)), ⟨Nat.zero_le _, Nat.zero_le _⟩⟩
 · refine sc (W.seq (W.region (mv rfl (oo (t_buildSlice (T := (tyI .i64)) (xs := [((lastTo ((cutAll 32 s).getD 0 .empty) 24 : Nat) : Int)]) (cs := #[.int .i64 ((lastTo ((cutAll 32 s).getD 0 .empty) 24 : Nat) : Int)]) rfl y23 sz3 rfl rfl rfl rfl (by kernel_rfl) rfl rfl fun w5 u5 => ?_)))))
   have H5 : UpG _ _ _ [[_], [_], [_]] := H3.new' u5
   refine oo (d_build (cs := #[.slice (some ⟨w3.heap.size, 0, none⟩) ([((lastTo ((cutAll 32 s).getD 0 .empty) 24 : Nat) : Int)].length) ([((lastTo ((cutAll 32 s).getD 0 .empty) 24 : Nat) : Int)].length), .string ⟨#[]⟩]) rfl (by kernel_rfl) (mv rfl (oo (t_sufRd 1 (T := tyS) (xs := (cutAll 32 s)) rfl y48 sz9 rfl rfl (H5.ownT 1 rfl) rfl (by omega) fun sa1 sc1 w6 u6 => ?_))))
   have H6 : UpG _ _ _ [[_], [_], [_]] := H5.on 1 rfl u6
   refine oo (d_call ok19 rfl (Ret.calls (words_any _ _ _ sa1 ((cutAll 32 s).drop 1) sc1 w6 (H6.hp2 2 1 rfl rfl rfl)  (lw.at H6) (by omega) (fun x hx => by have := hcm x (List.mem_of_mem_drop hx); omega) (by simp) (LaidK.of lw H6 2 1 rfl rfl)) fun _ w7 p3 => ?_))
   obtain ⟨na2_1, nc2_1, rd_1, ok_1, rfl, u7, hw1, hv1⟩ := p3
   have H7 : UpG _ _ _ [[_], [], [_]] := (H6.on2 (A' := [rowT (tyI .i64) (.slice na2_1 rd_1.nums.length nc2_1) 3 rd_1.nums]) (B' := []) (C := []) 2 1 rfl rfl rfl u7).re rfl
   refine mv rfl (oo (d_extract rfl rfl (oo (d_extract rfl rfl (oo (d_alloc sz25 fun w8 u8 => ?_))))))
   have H8 : UpG _ _ _ [[_], [], [_], [_]] := H7.new' u8
   refine WL.op0 (d_storeAB (us := [_, _]) (cs' := #[_, _]) sz25 rfl rfl rfl rfl (H8.blk 3 rfl) rfl rfl fun w9 u9 => ?_)
   have H9 : UpG _ _ _ [[_], [], [_], [_]] := H8.on 3 rfl u9
   refine ag rfl (dc (W.seq (W.seq (W.region (oo (d_loadAB [_, _] y25 rfl sz25 rfl (H9.blk 3 rfl) rfl rfl (oo (d_call ok20 rfl (Ret.calls (opOf_any rd_1 na2_1 _ w9 (H9.rdT 2 rfl) ) fun _ w10 p4 => ?_)))))))))
   obtain ⟨rfl, u10⟩ := p4
   have H10 : UpG _ _ _ [[_], [], [_], [_]] := H9.call u10
   refine mv rfl (oo (d_extract rfl rfl (oo (d_extract rfl rfl (oo (d_alloc sz54 fun w11 u11 => ?_))))))
   have H11 : UpG _ _ _ [[_], [], [_], [_], [_]] := H10.new' u11
   refine WL.op0 (d_storeAB (us := [_, _, _, _, _]) (cs' := #[_, _, _, _, _]) sz54 rfl rfl rfl rfl (H11.blk 4 rfl) rfl rfl fun w12 u12 => ?_)
   have H12 : UpG _ _ _ [[_], [], [_], [_], [_]] := H11.on 4 rfl u12
   refine ag rfl (dc (W.pick [9, 7, 6, 3, 2] (Γ' := [(9, _), (7, _), (6, _), (3, _), (2, _)]) rfl (W.seq (W.region (mv rfl (oo (d_notB rfl (mv rfl ?_))))))))
   refine WL.partB 35 rfl (fun g54 => ?_) (fun g54 => ?_)
   · refine WL.opN rfl rfl rfl rfl (WL.opN rfl rfl rfl rfl (oo (d_pick rfl rfl (dc (W.ift rfl (W.seq (W.region (oo (d_build (cs := #[.slice none 0 0, .string ⟨#[]⟩]) rfl (by kernel_rfl) (WL.op0 (d_storeAB (us := [_, _]) (cs' := #[_, _]) sz25 rfl rfl rfl rfl (H12.blk 0 rfl) rfl rfl fun w13 u13 => ?_)))))))))))
     have H13 : UpG _ _ _ [[_], [], [_], [_], [_]] := H12.on 0 rfl u13
     refine ag rfl (dc (W.ret (X.then_ret (X.retR2 rfl (rv_cellA [.slice none 0 0, .string ⟨#[]⟩] y25 rfl sz25 rfl (H13.blk 0 rfl) rfl rfl) (rv_tmp rfl) ?_))))
     exact ⟨none, 0, raw0, 3, (by rfl), nilOwn H13, (.inr (.inr ⟨rfl, rfl, by unfold w0; omega, read_bad rfl hw1 (by first | exact .inl (by simpa using g54) | exact .inr (by simpa using c54))⟩)), ⟨Nat.zero_le _, Nat.zero_le _⟩⟩
   · refine WL.opG rfl rfl rfl (d_move rfl (WL.opG rfl rfl rfl (d_cmp _ rfl rfl rfl (oo (d_pick rfl rfl (dc ?_))))))
     refine W.ite rfl (fun c54 => ?_) (fun c54 => ?_)
     · refine sr (oo (d_build (cs := #[.slice none 0 0, .string ⟨#[]⟩]) rfl (by kernel_rfl) (WL.op0 (d_storeAB (us := [_, _]) (cs' := #[_, _]) sz25 rfl rfl rfl rfl (H12.blk 0 rfl) rfl rfl fun w14 u14 => ?_))))
       have H14 : UpG _ _ _ [[_], [], [_], [_], [_]] := H12.on 0 rfl u14
       refine ag rfl (dc (W.ret (X.then_ret (X.retR2 rfl (rv_cellA [.slice none 0 0, .string ⟨#[]⟩] y25 rfl sz25 rfl (H14.blk 0 rfl) rfl rfl) (rv_tmp rfl) ?_))))
       exact ⟨none, 0, raw0, 3, (by rfl), nilOwn H14, (.inr (.inr ⟨rfl, rfl, by unfold w0; omega, read_bad rfl hw1 (by first | exact .inl (by simpa using g54) | exact .inr (by simpa using c54))⟩)), ⟨Nat.zero_le _, Nat.zero_le _⟩⟩
     · refine sc (W.seq (W.region (oo (d_loadAB [_, _] y25 rfl sz25 rfl (H12.blk 3 rfl) rfl rfl (WL.op0 (d_storeAB (us := [_, _]) (cs' := #[_, _]) sz25 rfl rfl rfl rfl (H12.blk 0 rfl) rfl rfl fun w15 u15 => ?_))))))
       have H15 : UpG _ _ _ [[_], [], [_], [_], [_]] := H12.on 0 rfl u15
       refine ag rfl (dc (W.ret (X.retR2 rfl (rv_cellA [.slice na2_1 rd_1.nums.length nc2_1, .string rd_1.text] y25 rfl sz25 rfl (H15.blk 0 rfl) rfl rfl) (rv_tmp rfl) ?_)))
       exact ⟨na2_1, nc2_1, rd_1, 0, rfl, H15.one 2 rfl, (.inl ⟨rfl, read_good rfl (by unfold w0; omega) hw1 (by simpa using g54) (by simpa using c54)⟩), (by have h9 := hv1; simp only [List.length_cons, List.length_nil] at h9; omega)⟩

set_option maxRecDepth 20000 in
theorem refRead_any (s : ByteArray) (w : World) (hs : s.size ≤ 300) :
   Calls Tryd.prog 8 #[.string s] w (Ret fun v w' => ∃ ra2 : Option Addr, ∃ rc2 : Nat, ∃ rd : RawD, ∃ re : Int, v = .tuple #[.agg #[.slice ra2 rd.nums.length rc2, .string rd.text], .int .i64 re] ∧ Upd w [] w' [rowT (tyI .i64) (.slice ra2 rd.nums.length rc2) 3 rd.nums] ∧ (ReadS s rd re) ∧ (rd.nums.length ≤ 1000 ∧ rd.text.size ≤ 100000)) := by
 have hcl := cutAll_len 32 s
 have hcm := cutAll_mem 32 s
 have hc0 := cutAll_ne 32 s
 have hcd : ((cutAll 32 s).drop 1).length = (cutAll 32 s).length - 1 := by simp
 have hn24 : opNames.length = 24 := rfl
 refine calls_of_W (args := [.string s]) Tryd.func8 rfl rfl rfl ?_
 have H0 : UpG w [] w [] := UpG.nil w
 show W _ _ _ _ [(0, _)] w
 refine sr (oo (d_alloc sz25 fun w1 u1 => ?_))
 have H1 : UpG _ _ _ [[_]] := H0.new' u1
 refine ag rfl (dc (W.seq (W.region (mv rfl (oo (d_call ok21 rfl (Ret.calls (wordsC_any _ w1  (by omega)) fun _ w2 p1 => ?_)))))))
 obtain ⟨a2_1, c2_1, rfl, u2⟩ := p1
 have H2 : UpG _ _ _ [[_], [_]] := (H1.new' u2).re rfl
 refine ag rfl (dc (W.seq (W.region (oo (d_call ok22 rfl (Ret.calls (names_any  w2  ) fun _ w3 p2 => ?_))))))
 obtain ⟨a2_2, c2_2, rfl, u3⟩ := p2
 have H3 : UpG _ _ _ [[_], [_], [_]] := (H2.new' u3).re rfl
 refine ag rfl (dc (W.seq (W.region (oo (d_alloc sz25 fun w4 u4 => ?_)))))
 have H4 : UpG _ _ _ [[_], [_], [_], [_]] := H3.new' u4
 refine dc (W.seq (W.seq (W.region (ag rfl (dc (W.block ?_))))))
 have H5 : UpG w [] w4 [[blk w.heap.size #[.slice none 0 0, .string ⟨#[]⟩] 25], [rowT tyS (.slice a2_1 ((cutAll 32 s).length) c2_1) 9 (cutAll 32 s)], [rowT tyS (.slice a2_2 opNames.length c2_2) 9 opNames], [blk w3.heap.size #[.slice none (([] : List Int).length) 0, .string ⟨#[]⟩] 25], [rowT (tyI .i64) (.slice none (([] : List Int).length) 0) 3 ([] : List Int)]] := H4.new' (Upd.nilRowT w4 (tyI .i64) 3)
 have H6 : UpG _ _ _ [[_], [_], [_], [_], [_]] := H5.pm [3, 4, 0, 1, 2] rfl rfl
 refine W.lp (B := [(6, _), (5, _), (4, _), (3, _), (2, _), (0, _)]) [7, 6, 5, 4, 3, 2, 0] (fun B R L m Γ' w' => ∃ i : Nat, ∃ xs : List Int, ∃ xa : Option Addr, ∃ xc : Nat, Γ' = (7, .int .i64 ((i : Nat) : Int)) :: B ∧ UpG w L w' ([blk w3.heap.size #[.slice xa xs.length xc, .string ⟨#[]⟩] 25] :: [rowT (tyI .i64) (.slice xa xs.length xc) 3 xs] :: R) ∧ (i ≤ 24) ∧ (xs = kindL (lastTo (w0 s) i)) ∧ m = 24 - i) (24 - 0) ⟨0, ([] : List Int), none, 0, rfl, H6, (by first | assumption | omega | simp), (by rfl), rfl⟩ rfl ?_
 rintro m1 Γ1 w5 ⟨i, xs, xa, xc, rfl, H7, hi, hx, rfl⟩
 refine W.seq (W.seq (W.region (mv rfl (mv rfl (oo (d_lenS y48 rfl (oo (d_cmp _ rfl rfl rfl (dc ?_)))))))))
 refine W.ite rfl (fun c31 => ?_) (fun c31 => ?_)
 · refine sc (W.seq (W.block (W.seq (W.regionD mixed (by kernel_rfl) fun hok1 w6 k1 => ?_))))
   have H8 : UpG _ _ _ [[_], [_], [_], [_], [_]] := H7.kept k1
   refine tm hok1 0 rfl rfl (tm hok1 1 rfl rfl (tr hok1 2 (H8.rdT 4 rfl) rfl rfl (fun _ hC => t_addr1 i (T := tyS) rfl y48 sz9 rfl rfl hC rfl (by omega) ⟨rfl, rfl⟩) (tr hok1 3 (H8.rdT 4 rfl) rfl rfl (fun _ hC => t_load1 i .empty (T := tyS) rfl y9 rfl rfl hC (by omega) rfl ⟨rfl, rfl⟩) (tm hok1 4 rfl rfl (tr hok1 5 (H8.rdT 3 rfl) rfl rfl (fun _ hC => t_addr1 0 (T := tyS) rfl y48 sz9 rfl rfl hC rfl (by omega) ⟨rfl, rfl⟩) (tr hok1 6 (H8.rdT 3 rfl) rfl rfl (fun _ hC => t_load1 0 .empty (T := tyS) rfl y9 rfl rfl hC (by omega) rfl ⟨rfl, rfl⟩) (tq hok1 7 rfl rfl (fun _ => d_streq rfl rfl ⟨rfl, rfl⟩) (WD.done hok1 rfl (X.then_code ?_)))))))))
   refine W.ite rfl (fun c32 => ?_) (fun c32 => ?_)
   · refine W.region (mv rfl (oo (d_add rfl rfl (by omega) (by omega) (oo (t_buildSlice (T := (tyI .i64)) (xs := [((i : Nat) : Int) + 1]) (cs := #[.int .i64 (((i : Nat) : Int) + 1)]) rfl y23 sz3 rfl rfl rfl rfl (by kernel_rfl) rfl rfl fun w7 u5 => ?_)))))
     have H9 : UpG _ _ _ [[_], [_], [_], [_], [_], [_]] := H8.new' u5
     refine oo (d_fieldAddrB fld25_0 rfl rfl (WL.op0 (d_storeB sz23 rfl rfl rfl (H9.blk 0 rfl) rfl fun w8 u6 => ?_)))
     have H10 : UpG _ _ _ [[_], [_], [_], [_], [_], [_]] := H9.on 0 rfl u6
     refine WL.done (X.block_normal (X.then_code (W.region (mv rfl (oo (d_add rfl rfl (by omega) (by omega) (ag rfl (WL.done ?_))))))))
     exact X.nx [7, 6, 5, 4, 3, 2, 0] (24 - (i + 1)) (by omega) ⟨i + 1, [((i : Nat) : Int) + 1], (some ⟨w6.heap.size, 0, none⟩), [((i : Nat) : Int) + 1].length, rfl, (H10.pm [0, 5, 2, 3, 4] rfl rfl), (by first | assumption | omega | simp), (by first | (rw [lastTo, if_pos (by simpa [w0] using c32)]; rfl) | (rw [lastTo, if_neg (by simpa [w0] using c32)]; exact hx)), rfl⟩ rfl
   · refine W.skip (X.block_normal (X.then_code (W.region (mv rfl (oo (d_add rfl rfl (by omega) (by omega) (ag rfl (WL.done ?_))))))))
     exact X.nx [7, 6, 5, 4, 3, 2, 0] (24 - (i + 1)) (by omega) ⟨i + 1, xs, xa, xc, rfl, H8, (by first | assumption | omega | simp), (by first | (rw [lastTo, if_pos (by simpa [w0] using c32)]; rfl) | (rw [lastTo, if_neg (by simpa [w0] using c32)]; exact hx)), rfl⟩ rfl
 · refine W.exit (X.then_exit (X.then_exit (X.block_exit (X.then_code (W.seq (W.seq ?_))))))
   have hi24 : i = 24 := by omega
   subst hi24
   refine W.region (oo (d_fieldAddrB fld25_0 rfl rfl (oo (d_loadB y23 rfl rfl (H7.blk 0 rfl) rfl (oo (d_lenS y23 rfl (oo (d_cmp _ rfl rfl rfl (dc ?_)))))))))
   refine W.ite rfl (fun c36 => ?_) (fun c36 => ?_)
   · refine sr (oo (d_build (cs := #[.slice none 0 0, .string ⟨#[]⟩]) rfl (by kernel_rfl) (WL.op0 (d_storeAB (us := [_, _]) (cs' := #[_, _]) sz25 rfl rfl rfl rfl (H7.blk 2 rfl) rfl rfl fun w9 u7 => ?_))))
     have H11 : UpG _ _ _ [[_], [_], [_], [_], [_]] := H7.on 2 rfl u7
     refine ag rfl (dc (W.ret (X.then_ret (X.retR2 rfl (rv_cellA [.slice none 0 0, .string ⟨#[]⟩] y25 rfl sz25 rfl (H11.blk 2 rfl) rfl rfl) (rv_tmp rfl) ?_))))
     exact ⟨none, 0, raw0, 9, (by rfl), nilOwn H11, (.inr (.inl ⟨rfl, rfl, by rw [hx] at c36; exact kindL_nil c36⟩)), ⟨Nat.zero_le _, Nat.zero_le _⟩⟩
   · refine sc (W.seq (W.seq (W.region (ag rfl (dc (W.block ?_))))))
     have hk0 : lastTo (w0 s) 24 ≠ 0 := fun h9 => by rw [hx, h9] at c36; exact c36 rfl
     have hk2 := kindL_ok hk0
     refine W.lp (B := [(6, _), (4, _), (3, _), (2, _), (0, _)]) [8, 6, 4, 3, 2, 0] (fun B R L m Γ' w' => ∃ k : Nat, ∃ ys : List Int, ∃ ya : Option Addr, ∃ yc : Nat, ∃ tx : ByteArray, Γ' = (8, .int .i64 ((k + 1 : Nat) : Int)) :: B ∧ UpG w L w' ([blk w3.heap.size #[.slice ya ys.length yc, .string tx] 25] :: [rowT (tyI .i64) (.slice ya ys.length yc) 3 ys] :: R) ∧ (k ≤ ((cutAll 32 s).drop 1).length) ∧ (RfI ((lastTo (w0 s) 24 : Nat) : Int) ((cutAll 32 s).drop 1) k ys tx) ∧ (tx.size ≤ 80000) ∧ m = ((cutAll 32 s).drop 1).length - k) (((cutAll 32 s).drop 1).length - 0) ⟨0, xs, xa, xc, ⟨#[]⟩, rfl, H7, (by omega), (by rw [hx, hk2.2]; exact RfI.start _ (hk2.1 _ (by rw [hk2.2]; simp))), (by decide), rfl⟩ rfl ?_
     rintro m2 Γ2 w10 ⟨k, ys, ya, yc, tx, rfl, H12, hk, hrf, htz, rfl⟩
     refine W.seq (W.seq (W.region (mv rfl (mv rfl (oo (d_lenS y48 rfl (oo (d_cmp _ rfl rfl rfl (dc ?_)))))))))
     refine W.ite rfl (fun c39 => ?_) (fun c39 => ?_)
     · refine sc (W.seq (W.block ?_))
       refine W.ct (B := [(8, _), (6, _), (4, _), (3, _), (2, _), (0, _)]) (R := [[_], [_], [_], [_], [_]]) [8, 6, 4, 3, 2, 0] 0 rfl H12 rfl (fun B R L Γ' w' => Γ' = B ∧ UpG w L w' (R) ∧ (¬ (eqP (((cutAll 32 s).drop 1).getD k .empty) = true ∧ k + 1 = ((cutAll 32 s).drop 1).length))) ?_ ?_
       · refine W.seq ?_
         have hkl : k < ((cutAll 32 s).drop 1).length := by omega
         have hwz := hcm _ (getD_mem' (d := .empty) (show k + 1 < (cutAll 32 s).length by omega))
         have hgd : (cutAll 32 s).getD (k + 1) .empty = ((cutAll 32 s).drop 1).getD k .empty := drop_get _ k
         refine W.region (mv rfl (mv rfl (oo (d_lenS y48 rfl (oo (d_sub rfl rfl (by omega) (by omega) (oo (d_cmp _ rfl rfl rfl (mv rfl ?_)))))))))
         refine WL.part 52 rfl (fun g40 => ?_) (fun g40 => ?_)
         · refine WL.opG rfl rfl rfl (d_move rfl (WL.opG rfl rfl rfl (d_move rfl (WL.opG rfl rfl rfl (t_addr1 (k + 1) (T := tyS) rfl y48 sz9 rfl rfl (H12.rdT 3 rfl) rfl (by first | omega | (have := (eqP_bt (w := (cutAll 32 s).getD (k + 1) .empty)); omega)) (WL.opG rfl rfl rfl (t_load1 (k + 1) .empty (T := tyS) rfl y9 rfl rfl (H12.rdT 3 rfl) (by first | omega | (have := (eqP_bt (w := (cutAll 32 s).getD (k + 1) .empty)); omega)) rfl (WL.opG rfl rfl rfl (d_lenStr y9 rfl (WL.opG rfl rfl rfl (d_cmp _ rfl rfl rfl (oo (d_pick rfl rfl (mv rfl ?_))))))))))))))
           refine WL.part 60 rfl (fun g40x => ?_) (fun g40x => ?_)
           · refine WL.opG rfl rfl rfl (d_move rfl (WL.opG rfl rfl rfl (d_move rfl (WL.opG rfl rfl rfl (t_addr1 (k + 1) (T := tyS) rfl y48 sz9 rfl rfl (H12.rdT 3 rfl) rfl (by first | omega | (have := (eqP_bt (w := (cutAll 32 s).getD (k + 1) .empty)); omega)) (WL.opG rfl rfl rfl (t_load1 (k + 1) .empty (T := tyS) rfl y9 rfl rfl (H12.rdT 3 rfl) (by first | omega | (have := (eqP_bt (w := (cutAll 32 s).getD (k + 1) .empty)); omega)) rfl (WL.opG rfl rfl rfl (d_idxStrN 0 y9 rfl rfl rfl (by first | omega | (have := (eqP_bt (w := (cutAll 32 s).getD (k + 1) .empty)); omega)) (WL.opG rfl rfl rfl (d_cmp _ rfl rfl rfl (oo (d_pick rfl rfl (dc (W.pick [67, 66, 65, 64, 63, 62, 61, 58, 57, 56, 55, 54, 53, 8, 6, 4, 3, 2, 0] (Γ' := [(67, _), (66, _), (65, _), (64, _), (63, _), (62, _), (61, _), (58, _), (57, _), (56, _), (55, _), (54, _), (53, _), (8, _), (6, _), (4, _), (3, _), (2, _), (0, _)]) rfl ?_)))))))))))))))
             refine W.ite rfl (fun c40 => ?_) (fun c40 => ?_)
             · refine W.seq ?_
               have hwp : eqP ((cutAll 32 s).getD (k + 1) .empty) = true := eqP_bt.2 ⟨by omega, by omega⟩
               refine W.region (mv rfl (mv rfl (oo (t_addr1 (k + 1) (T := tyS) rfl y48 sz9 rfl rfl (H12.rdT 3 rfl) rfl (by omega) (oo (t_load1 (k + 1) .empty (T := tyS) rfl y9 rfl rfl (H12.rdT 3 rfl) (by omega) rfl (oo (d_substrN 1 ((((cutAll 32 s).getD (k + 1) .empty).size : Nat) : Int) 1 (((cutAll 32 s).getD (k + 1) .empty).size) y9 rfl rfl rfl (.inr ⟨_, rfl⟩) (.inl ⟨rfl, rfl⟩) (by omega) (by omega) ⟨by first | omega | (have := hwz; omega), by first | omega | (have := hwz; omega), by first | omega | (have := hwz; omega)⟩ (oo (d_call ok23 rfl (Ret.calls (bytes41_any _ w10  (by rw [ByteArray.size_extract]; omega)) fun _ w11 p3 => ?_)))))))))))
               obtain ⟨t_1, b_1, rfl, u8, q1, q2⟩ := p3
               have H13 : UpG _ _ _ [[_], [_], [_], [_], [_]] := H12.call u8
               refine mv rfl (oo (d_extract rfl rfl (oo (d_extract rfl rfl (ag rfl (ag rfl (dc (W.seq (W.region (mv rfl (oo (d_fieldAddrB fld25_1 rfl rfl (WL.op0 (d_storeB sz9 rfl rfl rfl (H13.blk 0 rfl) rfl fun w12 u9 => ?_))))))))))))))
               have H14 : UpG _ _ _ [[_], [_], [_], [_], [_]] := H13.on 0 rfl u9
               refine dc (W.pick [66, 65, 64, 63, 62, 61, 58, 57, 56, 55, 54, 53, 8, 6, 4, 3, 2, 0] (Γ' := [(66, _), (65, _), (64, _), (63, _), (62, _), (61, _), (58, _), (57, _), (56, _), (55, _), (54, _), (53, _), (8, _), (6, _), (4, _), (3, _), (2, _), (0, _)]) rfl (W.exit (X.then_exit (X.block_exit (X.then_code (W.region (mv rfl (oo (d_add rfl rfl (by omega) (by omega) (ag rfl (WL.done ?_)))))))))))
               exact X.nx [8, 6, 4, 3, 2, 0] (((cutAll 32 s).drop 1).length - (k + 1)) (by omega) ⟨k + 1, ys, ya, yc, t_1, rfl, H14, (by omega), (by first | exact hrf.num hkl hnp q3 (by rw [← hgd]; exact q4) | exact hrf.text hkl (by rw [← hgd]; exact hwp) (by rw [← hgd]; exact q2)), (by first | exact htz | (rw [ByteArray.size_extract] at q1; omega)), rfl⟩ rfl
             · refine W.skip ?_
               exact X.cu [8, 6, 4, 3, 2, 0] ⟨rfl, H12, (by rw [← hgd, eqP_bt]; omega)⟩ rfl
           · refine WL.opN rfl rfl rfl rfl (WL.opN rfl rfl rfl rfl (WL.opN rfl rfl rfl rfl (WL.opN rfl rfl rfl rfl (WL.opN rfl rfl rfl rfl (WL.opN rfl rfl rfl rfl (oo (d_pick rfl rfl (dc (W.pick [67, 66, 65, 64, 63, 62, 61, 58, 57, 56, 55, 54, 53, 8, 6, 4, 3, 2, 0] (Γ' := [(67, _), (66, _), (65, _), (64, _), (63, _), (62, _), (61, _), (58, _), (57, _), (56, _), (55, _), (54, _), (53, _), (8, _), (6, _), (4, _), (3, _), (2, _), (0, _)]) rfl (W.iff rfl (W.skip ?_)))))))))))
             exact X.cu [8, 6, 4, 3, 2, 0] ⟨rfl, H12, (by rw [← hgd, eqP_bt]; omega)⟩ rfl
         · refine WL.opN rfl rfl rfl rfl (WL.opN rfl rfl rfl rfl (WL.opN rfl rfl rfl rfl (WL.opN rfl rfl rfl rfl (WL.opN rfl rfl rfl rfl (WL.opN rfl rfl rfl rfl (oo (d_pick rfl rfl (mv rfl (WL.opN rfl rfl rfl rfl (WL.opN rfl rfl rfl rfl (WL.opN rfl rfl rfl rfl (WL.opN rfl rfl rfl rfl (WL.opN rfl rfl rfl rfl (WL.opN rfl rfl rfl rfl (oo (d_pick rfl rfl (dc (W.pick [67, 66, 65, 64, 63, 62, 61, 58, 57, 56, 55, 54, 53, 8, 6, 4, 3, 2, 0] (Γ' := [(67, _), (66, _), (65, _), (64, _), (63, _), (62, _), (61, _), (58, _), (57, _), (56, _), (55, _), (54, _), (53, _), (8, _), (6, _), (4, _), (3, _), (2, _), (0, _)]) rfl (W.iff rfl (W.skip ?_))))))))))))))))))))
           exact X.cu [8, 6, 4, 3, 2, 0] ⟨rfl, H12, (by rw [← hgd, eqP_bt]; omega)⟩ rfl
       rintro Γ3 w13 ⟨rfl, H15, hnp⟩
       refine W.seq ?_
       have hwz := hcm _ (getD_mem' (d := .empty) (show k + 1 < (cutAll 32 s).length by omega))
       have hkl : k < ((cutAll 32 s).drop 1).length := by omega
       have hgd : (cutAll 32 s).getD (k + 1) .empty = ((cutAll 32 s).drop 1).getD k .empty := drop_get _ k
       refine W.region (mv rfl (mv rfl (oo (t_addr1 (k + 1) (T := tyS) rfl y48 sz9 rfl rfl (H15.rdT 3 rfl) rfl (by omega) (oo (t_load1 (k + 1) .empty (T := tyS) rfl y9 rfl rfl (H15.rdT 3 rfl) (by omega) rfl (oo (d_call ok24 rfl (Ret.calls (read41_any _ w13  ) fun _ w14 p4 => ?_)))))))))
       obtain ⟨rv_1, rb_1, rfl, u10, q3, q4⟩ := p4
       have H16 : UpG _ _ _ [[_], [_], [_], [_], [_]] := H15.call u10
       refine mv rfl (oo (d_extract rfl rfl (oo (d_extract rfl rfl (ag rfl (ag rfl (dc (W.region (oo (d_fieldAddrB fld25_0 rfl rfl (oo (d_loadB y23 rfl rfl (H16.blk 0 rfl) rfl (mv rfl (oo (t_buildSlice (T := (tyI .i64)) (xs := [rv_1]) (cs := #[.int .i64 rv_1]) rfl y23 sz3 rfl rfl rfl rfl (by kernel_rfl) rfl rfl fun w15 u11 => ?_)))))))))))))))
       have H17 : UpG _ _ _ [[_], [_], [_], [_], [_], [_]] := H16.new' u11
       refine oo (t_append (T := (tyI .i64)) (xs := ys) (ys := [rv_1]) rfl y23 sz3 rfl rfl rfl (H17.ownT 1 rfl) (H17.rdT 5 rfl) (by have h8 := hrf.len; simp; omega) (by have h8 := hrf.len; simp; omega) fun a1 c1 w16 u12 => ?_)
       have H18 : UpG _ _ _ [[_], [_], [_], [_], [_], []] := (H17.on 1 rfl u12).drop 5
       refine oo (d_fieldAddrB fld25_0 rfl rfl (WL.op0 (d_storeB sz23 rfl rfl rfl (H18.blk 0 rfl) rfl fun w17 u13 => ?_)))
       have H19 : UpG _ _ _ [[_], [_], [_], [_], [_], []] := H18.on 0 rfl u13
       refine WL.done (X.block_normal (X.then_code (W.region (mv rfl (oo (d_add rfl rfl (by omega) (by omega) (ag rfl (WL.done ?_))))))))
       exact X.nx [8, 6, 4, 3, 2, 0] (((cutAll 32 s).drop 1).length - (k + 1)) (by omega) ⟨k + 1, ys ++ [rv_1], a1, c1, tx, rfl, (H19.re rfl), (by omega), (by first | exact hrf.num hkl hnp q3 (by rw [← hgd]; exact q4) | exact hrf.text hkl (by rw [← hgd]; exact hwp) (by rw [← hgd]; exact q2)), (by first | exact htz | (rw [ByteArray.size_extract] at q1; omega)), rfl⟩ rfl
     · refine W.exit (X.then_exit (X.then_exit (X.block_exit (X.then_code (W.seq (W.region (oo (d_loadAB [_, _] y25 rfl sz25 rfl (H12.blk 0 rfl) rfl rfl (oo (d_call ok12 rfl (Ret.calls (refLine_any (⟨ys, tx⟩ : RawD) ya yc w10 (H12.rdT 1 rfl) hrf.ok (by have := hrf.len; show ys.length ≤ _; omega) (by show tx.size ≤ _; omega)) fun _ w18 p5 => ?_)))))))))))
       obtain ⟨rfl, u14⟩ := p5
       have H20 : UpG _ _ _ [[_], [_], [_], [_], [_]] := H12.call u14
       refine mv rfl (oo (d_extract rfl rfl (oo (d_extract rfl rfl (ag rfl (ag rfl (dc (W.seq (W.seq (W.region (mv rfl (oo (d_cmp _ rfl rfl rfl (mv rfl ?_))))))))))))))
       refine WL.part 100 rfl (fun g49 => ?_) (fun g49 => ?_)
       · refine WL.opN rfl rfl rfl rfl (WL.opN rfl rfl rfl rfl (WL.opN rfl rfl rfl rfl (oo (d_pick rfl rfl (dc (W.ift rfl (W.seq (W.region (oo (d_build (cs := #[.slice none 0 0, .string ⟨#[]⟩]) rfl (by kernel_rfl) (WL.op0 (d_storeAB (us := [_, _]) (cs' := #[_, _]) sz25 rfl rfl rfl rfl (H20.blk 2 rfl) rfl rfl fun w19 u15 => ?_))))))))))))
         have H21 : UpG _ _ _ [[_], [_], [_], [_], [_]] := H20.on 2 rfl u15
         refine ag rfl (dc (W.ret (X.then_ret (X.retR2 rfl (rv_cellA [.slice none 0 0, .string ⟨#[]⟩] y25 rfl sz25 rfl (H21.blk 2 rfl) rfl rfl) (rv_tmp rfl) ?_))))
         exact ⟨none, 0, raw0, 3, (by rfl), nilOwn H21, (.inr (.inr ⟨rfl, rfl, hk0, ref_bad hrf rfl (by omega) (by first | exact .inl (by assumption) | exact .inr (by assumption))⟩)), ⟨Nat.zero_le _, Nat.zero_le _⟩⟩
       · refine WL.opG rfl rfl rfl (d_move rfl (WL.opG rfl rfl rfl (d_move rfl (WL.opG rfl rfl rfl (d_strne rfl rfl (oo (d_pick rfl rfl (dc ?_))))))))
         refine W.ite rfl (fun c49 => ?_) (fun c49 => ?_)
         · refine sr (oo (d_build (cs := #[.slice none 0 0, .string ⟨#[]⟩]) rfl (by kernel_rfl) (WL.op0 (d_storeAB (us := [_, _]) (cs' := #[_, _]) sz25 rfl rfl rfl rfl (H20.blk 2 rfl) rfl rfl fun w20 u16 => ?_))))
           have H22 : UpG _ _ _ [[_], [_], [_], [_], [_]] := H20.on 2 rfl u16
           refine ag rfl (dc (W.ret (X.then_ret (X.retR2 rfl (rv_cellA [.slice none 0 0, .string ⟨#[]⟩] y25 rfl sz25 rfl (H22.blk 2 rfl) rfl rfl) (rv_tmp rfl) ?_))))
           exact ⟨none, 0, raw0, 3, (by rfl), nilOwn H22, (.inr (.inr ⟨rfl, rfl, hk0, ref_bad hrf rfl (by omega) (by first | exact .inl (by assumption) | exact .inr (by assumption))⟩)), ⟨Nat.zero_le _, Nat.zero_le _⟩⟩
         · refine sc (W.seq (W.region (oo (d_loadAB [_, _] y25 rfl sz25 rfl (H20.blk 0 rfl) rfl rfl (WL.op0 (d_storeAB (us := [_, _]) (cs' := #[_, _]) sz25 rfl rfl rfl rfl (H20.blk 2 rfl) rfl rfl fun w21 u17 => ?_))))))
           have H23 : UpG _ _ _ [[_], [_], [_], [_], [_]] := H20.on 2 rfl u17
           refine ag rfl (dc (W.ret (X.retR2 rfl (rv_cellA [.slice ya ys.length yc, .string tx] y25 rfl sz25 rfl (H23.blk 2 rfl) rfl rfl) (rv_tmp rfl) ?_)))
           exact ⟨ya, yc, ⟨ys, tx⟩, 0, (by rfl), (by have hh := H23.one 1 rfl; exact hh), (.inl ⟨rfl, ref_good hrf (by assumption) (by assumption)⟩), ⟨by have := hrf.len; show ys.length ≤ _; omega, by show tx.size ≤ _; omega⟩⟩
end Go.Proofs.YtnjjjmpdikpjaabDoor


/- The page's examples; texts of many lines. Conditions: those of each theorem. -/
namespace Go.Sx
set_option linter.unusedVariables false
set_option linter.unusedSimpArgs false
def nx1 : RawD := ⟨[9, 2, 5], ⟨#[]⟩⟩
theorem nx1_line : joinW (lineW nx1) = ⟨#[110, 101, 120, 116, 32, 50, 32, 53]⟩ := by
  have e : lineW nx1 = [⟨#[110, 101, 120, 116]⟩, ⟨#[50]⟩, ⟨#[53]⟩] := by
    have e1 : numB 2 = ⟨#[50]⟩ := by rw [numB_pos1 (by decide) (by decide)]; decide +kernel
    have e2 : numB 5 = ⟨#[53]⟩ := by rw [numB_pos1 (by decide) (by decide)]; decide +kernel
    show (opRowAt 9).name :: tailW [2, 5] ⟨#[]⟩ = _
    have e3 : (opRowAt 9).name = ⟨#[110, 101, 120, 116]⟩ := by decide +kernel
    unfold tailW
    rw [if_pos rfl, List.map_cons, List.map_cons, List.map_nil, e1, e2, e3]; rfl
  rw [e]; decide +kernel
theorem nx1_ok : Lok nx1 ⟨#[110, 101, 120, 116, 32, 50, 32, 53]⟩ := by
  refine ⟨fun n hn => ?_, by decide +kernel, nx1_line⟩
  simp only [nx1, List.mem_cons, List.not_mem_nil, or_false] at hn
  unfold i64ok
  rcases hn with rfl | rfl | rfl <;> decide
theorem awake1 {v : RawD} {e : Int} (h : ReadS ⟨#[110, 101, 120, 116, 32, 50, 32, 53]⟩ v e) : v = nx1 ∧ e = 0 := h.det (.inl ⟨rfl, nx1_ok⟩)
theorem awake2 {v : RawD} {e : Int} (h : ReadS ⟨#[110, 101, 120, 116, 32, 32, 50, 32, 53]⟩ v e) : e = 3 := by
  have hk : lastTo (w0 ⟨#[110, 101, 120, 116, 32, 32, 50, 32, 53]⟩) 24 = 9 := by decide +kernel
  rcases h with ⟨rfl, h⟩ | ⟨rfl, rfl, h⟩ | ⟨rfl, rfl, h, h'⟩
  · exfalso
    have hc := h.cut
    have e1 : cutAll 32 ⟨#[110, 101, 120, 116, 32, 32, 50, 32, 53]⟩ = [⟨#[110, 101, 120, 116]⟩, ⟨#[]⟩, ⟨#[50]⟩, ⟨#[53]⟩] := by decide +kernel
    rw [e1] at hc
    unfold lineW at hc
    injection hc with _ hc
    unfold tailW at hc
    cases hn : v.nums.drop 1 with
    | nil =>
      rw [hn] at hc
      split at hc <;> simp at hc
    | cons x r =>
      rw [hn, List.map_cons, List.cons_append] at hc
      injection hc with hc _
      have := numB_len x
      have h3 := Lib.nDigits_pos x.natAbs
      rw [← hc] at this
      have h9 : (⟨#[]⟩ : ByteArray).size = 0 := rfl
      omega
  · rw [hk] at h; cases h
  · rfl
theorem ReadS.same {s : ByteArray} {v u : RawD} {e f : Int} (h : ReadS s v e) (k : ReadS s u f) : e = f ∧ (v.nums = u.nums ∧ v.text = u.text) := by
  obtain ⟨rfl, rfl⟩ := h.det k
  exact ⟨rfl, rfl, rfl⟩
end Go.Sx


/- The walks of functions, printed by wip/tools/gw.py. -/
namespace Go.Proofs.YtnjjjmpdikpjaabDoor
open Go Go.Sx
set_option linter.unusedVariables false
set_option linter.unusedSimpArgs false
set_option maxRecDepth 20000 in
theorem awake_any  (w : World) (lw : Laid w) :
   Calls Tryd.prog 6 #[] w (Ret fun v w' => v = .bool true ∧ Upd w [] w' []) := by
 refine calls_of_W (args := []) Tryd.func6 rfl rfl rfl ?_
 have H0 : UpG w [] w [] := UpG.nil w
 show W _ _ _ _ [] w
 refine sr (ag rfl (dc (W.seq (W.region (oo (d_call ok7 rfl (Ret.calls (read_any _ w  (lw.at H0) (by decide)) fun _ w1 p1 => ?_)))))))
 obtain ⟨ra2_1, rc2_1, rd_1, re_1, rfl, u1, hr1, hb1⟩ := p1
 have H1 : UpG _ _ _ [[_]] := (H0.new' u1).re rfl
 refine mv rfl (oo (d_extract rfl rfl (oo (d_extract rfl rfl (oo (d_alloc sz25 fun w2 u2 => ?_))))))
 have H2 : UpG _ _ _ [[_], [_]] := H1.new' u2
 refine WL.op0 (d_storeAB (us := [_, _]) (cs' := #[_, _]) sz25 rfl rfl rfl rfl (H2.blk 1 rfl) rfl rfl fun w3 u3 => ?_)
 have H3 : UpG _ _ _ [[_], [_]] := H2.on 1 rfl u3
 refine ag rfl (dc (W.seq ?_))
 obtain ⟨e1, e2⟩ := awake1 hr1
 refine W.region (oo (d_loadAB [_, _] y25 rfl sz25 rfl (H3.blk 1 rfl) rfl rfl (oo (d_call ok11 rfl (Ret.calls (line_any rd_1 ra2_1 _ w3 (H3.rdT 0 rfl) (lw.at H3) (own_capN (H3.ownT 0 rfl)) (by rw [e1]; exact nx1_ok.1) (by rw [e1]; decide) (by rw [e1]; decide)) fun _ w4 p2 => ?_)))))
 obtain ⟨rfl, u4⟩ := p2
 have H4 : UpG _ _ _ [[_], [_]] := H3.call u4
 refine mv rfl (oo (d_extract rfl rfl (oo (d_extract rfl rfl (ag rfl (ag rfl (dc (W.seq (W.region (oo (d_call ok7 rfl (Ret.calls (read_any _ w4  (lw.at H4) (by decide)) fun _ w5 p3 => ?_))))))))))))
 obtain ⟨ra2_2, rc2_2, rd_2, re_2, rfl, u5, hr2, hb2⟩ := p3
 have H5 : UpG _ _ _ [[_], [_], [_]] := (H4.new' u5).re rfl
 refine mv rfl (oo (d_extract rfl rfl (oo (d_extract rfl rfl (oo (d_alloc sz25 fun w6 u6 => ?_))))))
 have H6 : UpG _ _ _ [[_], [_], [_], [_]] := H5.new' u6
 refine WL.op0 (d_storeAB (us := [_, _]) (cs' := #[_, _]) sz25 rfl rfl rfl rfl (H6.blk 3 rfl) rfl rfl fun w7 u7 => ?_)
 have H7 : UpG _ _ _ [[_], [_], [_], [_]] := H6.on 3 rfl u7
 refine ag rfl (dc (W.seq ?_))
 have e3 := awake2 hr2
 refine W.region (mv rfl (oo (d_cmp _ rfl rfl rfl (mv rfl ?_))))
 refine WL.part 22 rfl (fun g21 => ?_) (fun g21 => ?_)
 · refine WL.opG rfl rfl rfl (d_fieldAddrB fld25_0 rfl rfl (WL.opG rfl rfl rfl (d_loadB y23 rfl rfl (H7.blk 1 rfl) rfl (WL.opG rfl rfl rfl (d_lenS y23 rfl (WL.opG rfl rfl rfl (d_cmp _ rfl rfl rfl (oo (d_pick rfl rfl (mv rfl ?_))))))))))
   refine WL.part 28 rfl (fun g21x => ?_) (fun g21x => ?_)
   · refine WL.opG rfl rfl rfl (d_fieldAddrB fld25_0 rfl rfl (WL.opG rfl rfl rfl (d_loadB y23 rfl rfl (H7.blk 1 rfl) rfl (WL.opG rfl rfl rfl (t_addr1 1 (T := (tyI .i64)) rfl y23 sz3 rfl rfl (H7.rdT 0 rfl) rfl (by rw [e1]; decide) (WL.opG rfl rfl rfl (t_load1 1 0 (T := (tyI .i64)) rfl y3 rfl rfl (H7.rdT 0 rfl) (by rw [e1]; decide) rfl (WL.opG rfl rfl rfl (d_cmp _ rfl rfl rfl (oo (d_pick rfl rfl (mv rfl ?_))))))))))))
     refine WL.part 35 rfl (fun g21xx => ?_) (fun g21xx => ?_)
     · refine WL.opG rfl rfl rfl (d_move rfl (WL.opG rfl rfl rfl (d_streq rfl rfl (oo (d_pick rfl rfl (mv rfl ?_))))))
       refine WL.part 39 rfl (fun g21xxx => ?_) (fun g21xxx => ?_)
       · refine WL.opG rfl rfl rfl (d_move rfl (WL.opG rfl rfl rfl (d_cmp _ rfl rfl rfl (oo (d_pick rfl rfl (mv rfl ?_))))))
         refine WL.part 43 rfl (fun g21xxxx => ?_) (fun g21xxxx => ?_)
         · refine WL.opG rfl rfl rfl (d_move rfl (WL.opG rfl rfl rfl (d_cmp _ rfl rfl rfl (oo (d_pick rfl rfl (ag rfl (dc (W.pick [0] (Γ' := [(0, _)]) rfl (W.ret (X.ret1 rfl rfl ?_))))))))))
           exact ⟨(by rw [decide_eq_true e3]), H7.noneL⟩
         · exact absurd (by rw [e1, lineC_of nx1_ok]) g21xxxx
       · exact absurd (by rw [e1, lineC_of nx1_ok]) g21xxx
     · exact absurd (by rw [e1]; rfl) g21xx
   · exact absurd (by rw [e1]; rfl) g21x
 · exact absurd (by exact e2) g21

end Go.Proofs.YtnjjjmpdikpjaabDoor


/- Texts of many lines, written and read, as plain laws. Conditions: those of each theorem. -/
namespace Go.Sx
set_option linter.unusedVariables false
set_option linter.unusedSimpArgs false
/-- The lines of the first operations. -/
def txtTo (ds : List RawD) : Nat → ByteArray
  | 0 => ⟨#[]⟩
  | k + 1 => txtTo ds k ++ ((lineC (ds.getD k rawD0)).1 ++ ⟨#[10]⟩)
def okTo (ds : List RawD) (k : Nat) : Prop := ∀ j, j < k → (lineC (ds.getD j rawD0)).2 = 0
/-- What a list of operations is as text. -/
def TextR (ds : List RawD) (t : ByteArray) (at_ e : Int) : Prop :=
  (at_ = 0 ∧ e = 0 ∧ t = txtTo ds ds.length ∧ okTo ds ds.length) ∨ ∃ k : Nat, k < ds.length ∧ at_ = ((k : Nat) : Int) + 1 ∧ e = (lineC (ds.getD k rawD0)).2 ∧ e ≠ 0 ∧ t = ⟨#[]⟩ ∧ okTo ds k
theorem TextR.det {ds : List RawD} {t u : ByteArray} {a b e f : Int} (h : TextR ds t a e) (k : TextR ds u b f) : t = u ∧ a = b ∧ e = f := by
  rcases h with ⟨rfl, rfl, rfl, h⟩ | ⟨i, hi, rfl, rfl, he, rfl, h⟩ <;> rcases k with ⟨rfl, rfl, rfl, k⟩ | ⟨j, hj, rfl, rfl, hf, rfl, k⟩
  · exact ⟨rfl, rfl, rfl⟩
  · exact absurd (h j hj) hf
  · exact absurd (k i hi) he
  · rcases Nat.lt_trichotomy i j with h1 | h1 | h1
    · exact absurd (k i h1) he
    · subst h1; exact ⟨rfl, rfl, rfl⟩
    · exact absurd (h j h1) hf
theorem okTo.succ {ds : List RawD} {k : Nat} (h : okTo ds k) (h1 : (lineC (ds.getD k rawD0)).2 = 0) : okTo ds (k + 1) := fun j hj => by
  by_cases e : j = k
  · rw [e]; exact h1
  · exact h j (by omega)
theorem bytes_app2 (bx : List Int) (s : ByteArray) : strOfNums (bx ++ bytesL s ++ [10]) = strOfNums bx ++ (s ++ ⟨#[10]⟩) := by
  rw [strOfNums_app, strOfNums_app, str_bytes, ByteArray.append_assoc]; rfl
theorem bytes_rng2 {bx : List Int} {s : ByteArray} {z : Int} (h : ∀ x, x ∈ bx → 0 ≤ x ∧ x ≤ 255) (hz : 0 ≤ z ∧ z ≤ 255) : ∀ x, x ∈ bx ++ bytesL s ++ [z] → 0 ≤ x ∧ x ≤ 255 := fun x hx => by
  rcases List.mem_append.1 hx with hx | hx
  · rcases List.mem_append.1 hx with hx | hx
    · exact h x hx
    · obtain ⟨j, _, rfl⟩ := List.mem_map.1 hx; exact bt_range s j
  · simp only [List.mem_singleton] at hx; subst hx; exact hz
theorem fresh_row {w w' : World} {G : List (List Chunk)} {c : Chunk} {α : Type} {T : Ty α} {a : Option Addr} {n k : Nat} {e : TypeId} {xs : List α} (h : UpG w [] w' G) (i : Nat) (hi : G[i]? = some [c, rowT T (.slice a n k) e xs]) : ∀ g, a = some g → w.heap.size ≤ g.block := fun g hg => by
  subst hg
  have hm : g.block ∈ ats G.flatten := mem_ats.2 ⟨rowT T (.slice (some g) n k) e xs, List.mem_flatten.2 ⟨_, List.mem_of_getElem? hi, by simp⟩, by simp [rowT, row, Value.ownBlock]⟩
  rcases Upd.fresh h _ hm with h1 | h1
  · simp [ats] at h1
  · exact h1
/-- What goes along while lines are compared. -/
def LinesI (ds : List RawD) (k : Nat) (t : ByteArray) (at_ e : Int) : Prop :=
  (at_ = 0 ∧ e = 0 ∧ t = txtTo ds k ∧ okTo ds k) ∨ ∃ j : Nat, j < k ∧ at_ = ((j : Nat) : Int) + 1 ∧ e = (lineC (ds.getD j rawD0)).2 ∧ e ≠ 0 ∧ okTo ds j
theorem LinesI.start (ds : List RawD) : LinesI ds 0 ⟨#[]⟩ 0 0 := .inl ⟨rfl, rfl, rfl, fun j hj => by omega⟩
/-- Operations that a law looks at. -/
structure FewOk (p : RawP) : Prop where
  nums : p.d.nums.length ≤ 6
  text : p.d.text.size ≤ 30
  cap : p.d.nums.length ≤ p.c
  ok : okL p.d.nums
theorem fewL_ok {l : List RawP} (hc : ∀ p, p ∈ l → p.d.nums.length ≤ p.c) (hk : ∀ p, p ∈ l → okL p.d.nums) : ∀ p, p ∈ fewL l → FewOk p := fun q hq => by
  obtain ⟨p, hp, rfl⟩ := List.mem_map.1 hq
  have hm := List.mem_of_mem_take hp
  have h1 := hc p hm
  have h2 := hk p hm
  refine ⟨?_, ?_, ?_, fun n hn => h2 n (List.mem_of_mem_take hn)⟩
  · show (p.d.nums.take _).length ≤ 6; rw [List.length_take]; omega
  · show (p.d.text.extract 0 _).size ≤ 30; rw [ByteArray.size_extract]; omega
  · show (p.d.nums.take _).length ≤ p.c; rw [List.length_take]; omega
theorem lineC_size {d : RawD} (h : okL d.nums) (h1 : d.nums.length ≤ 6) (h2 : d.text.size ≤ 30) : (lineC d).1.size ≤ 800 := by
  unfold lineC
  split
  · have h3 : (lineW d).length ≤ 8 := by unfold lineW tailW; split <;> simp <;> omega
    have h4 := joinW_size (l := lineW d) (m := 61) (by
      intro w hw
      unfold lineW at hw
      rcases List.mem_cons.1 hw with rfl | hw
      · have := name_size (d.nums.getD 0 0); omega
      · unfold tailW at hw
        rcases List.mem_append.1 hw with hw | hw
        · obtain ⟨n, hn, rfl⟩ := List.mem_map.1 hw
          have := numB_size20 (h n (List.mem_of_mem_drop hn)); omega
        · split at hw
          · simp at hw
          · simp only [List.mem_singleton] at hw; subst hw; rw [eqH_size]; omega)
    have h5 : (lineW d).length * 62 ≤ 8 * 62 := Nat.mul_le_mul_right _ h3
    show (joinW (lineW d)).size ≤ 800
    omega
  · exact Nat.zero_le _
theorem FewOk.size {p : RawP} (h : FewOk p) : (lineC p.d).1.size ≤ 800 := lineC_size h.ok h.nums h.text
/-! ### Scripts -/
def skipB (w : ByteArray) : Bool := decide (w.size = 0) || decide (bt w 0 = 35)
def ScrOk : List ByteArray → List RawD → Prop
  | [], ds => ds = []
  | w :: L, ds => if skipB w = true then ScrOk L ds else ∃ d r, ds = d :: r ∧ ReadS w d 0 ∧ ScrOk L r
theorem ScrOk.skip : ∀ {L : List ByteArray} {ds : List RawD} {w : ByteArray}, ScrOk L ds → skipB w = true → ScrOk (L ++ [w]) ds
  | [], ds, w, h, hw => by simpa [ScrOk, hw] using h
  | x :: L, ds, w, h, hw => by
    simp only [List.cons_append, ScrOk] at h ⊢
    split
    · rename_i hx
      rw [if_pos hx] at h; exact h.skip hw
    · rename_i hx
      rw [if_neg hx] at h
      obtain ⟨d, r, e, h1, h2⟩ := h
      exact ⟨d, r, e, h1, h2.skip hw⟩
theorem ScrOk.add : ∀ {L : List ByteArray} {ds : List RawD} {w : ByteArray} {d : RawD}, ScrOk L ds → ¬ skipB w = true → ReadS w d 0 → ScrOk (L ++ [w]) (ds ++ [d])
  | [], ds, w, d, h, hw, hr => by
    simp only [ScrOk] at h
    subst h
    simp only [List.nil_append, ScrOk, if_neg hw]
    exact ⟨d, [], rfl, hr, rfl⟩
  | x :: L, ds, w, d, h, hw, hr => by
    simp only [List.cons_append, ScrOk] at h ⊢
    split
    · rename_i hx
      rw [if_pos hx] at h; exact h.add hw hr
    · rename_i hx
      rw [if_neg hx] at h
      obtain ⟨d', r, rfl, h1, h2⟩ := h
      exact ⟨d', r ++ [d], rfl, h1, h2.add hw hr⟩
theorem ScrOk.det : ∀ {L : List ByteArray} {a b : List RawD}, ScrOk L a → ScrOk L b → a = b
  | [], a, b, h, k => by simp only [ScrOk] at h k; rw [h, k]
  | x :: L, a, b, h, k => by
    simp only [ScrOk] at h k
    split at h
    · rename_i hx
      rw [if_pos hx] at k; exact h.det k
    · rename_i hx
      rw [if_neg hx] at k
      obtain ⟨d, r, rfl, h1, h2⟩ := h
      obtain ⟨d', r', rfl, k1, k2⟩ := k
      rw [(h1.det k1).1, h2.det k2]
/-- All lines that are read are operations. -/
theorem ScrOk.each : ∀ {L : List ByteArray} {ds : List RawD}, ScrOk L ds → ∀ w, w ∈ L → ¬ skipB w = true → ∃ d, ReadS w d 0
  | x :: L, ds, h, w, hw, hs => by
    simp only [ScrOk] at h
    split at h
    · rename_i hx
      rcases List.mem_cons.1 hw with rfl | hw
      · exact absurd hx hs
      · exact h.each w hw hs
    · obtain ⟨d, r, _, h1, h2⟩ := h
      rcases List.mem_cons.1 hw with rfl | hw
      · exact ⟨d, h1⟩
      · exact h2.each w hw hs
def ScrR (L : List ByteArray) (ds : List RawD) (at_ e : Int) : Prop :=
  (at_ = 0 ∧ e = 0 ∧ ScrOk L ds) ∨ ∃ (k : Nat) (r : List RawD), k < L.length ∧ ScrOk (L.take k) r ∧ ¬ skipB (L.getD k .empty) = true ∧ (∃ v, ReadS (L.getD k .empty) v e) ∧ e ≠ 0 ∧ at_ = ((k : Nat) : Int) + 1 ∧ ds = []
theorem scr_no {L : List ByteArray} {k : Nat} {e : Int} {S : List ByteArray} {ds : List RawD} (hk : L.getD k .empty ∈ S) (hs : ¬ skipB (L.getD k .empty) = true) (hr : ∃ v, ReadS (L.getD k .empty) v e) (he : e ≠ 0) (h : ScrOk S ds) : False := by
  obtain ⟨d, hd⟩ := h.each _ hk hs
  obtain ⟨v, hv⟩ := hr
  exact he (hv.det hd).2
theorem ScrR.det {L : List ByteArray} {a b : List RawD} {x y e f : Int} (h : ScrR L a x e) (k : ScrR L b y f) : a = b ∧ x = y ∧ e = f := by
  rcases h with ⟨rfl, rfl, h⟩ | ⟨i, r, hi, h1, h2, h3, h4, rfl, rfl⟩ <;> rcases k with ⟨rfl, rfl, k⟩ | ⟨j, q, hj, k1, k2, k3, k4, rfl, rfl⟩
  · exact ⟨h.det k, rfl, rfl⟩
  · exact (scr_no (getD_mem' hj) k2 k3 k4 h).elim
  · exact (scr_no (getD_mem' hi) h2 h3 h4 k).elim
  · have tk : ∀ {i j : Nat}, i < j → i < L.length → L.getD i .empty ∈ L.take j := fun {i j} h1 h2 => by
      have : (L.take j).getD i .empty = L.getD i .empty := by simp [List.getD_eq_getElem?_getD, h1]
      rw [← this]; exact getD_mem' (by rw [List.length_take]; omega)
    rcases Nat.lt_trichotomy i j with h9 | h9 | h9
    · exact (scr_no (tk h9 hi) h2 h3 h4 k1).elim
    · subst h9
      obtain ⟨v, hv⟩ := h3
      obtain ⟨u, hu⟩ := k3
      exact ⟨rfl, rfl, (hv.det hu).2⟩
    · exact (scr_no (tk h9 hj) k2 k3 k4 h1).elim
/-- What the document has while it cuts the text itself. -/
def RsI (s : ByteArray) (i f ln : Nat) (ds : List RawD) : Prop :=
  (i ≤ s.size ∧ f ≤ i ∧ ∃ o, cutTo 10 s i = (o, f) ∧ ln = o.length ∧ ScrOk o ds) ∨ (i = s.size + 1 ∧ ScrOk (cutAll 10 s) ds)
theorem RsI.start (s : ByteArray) : RsI s 0 0 0 [] := .inl ⟨Nat.zero_le _, Nat.le_refl _, [], rfl, rfl, rfl⟩
theorem RsI.here {s : ByteArray} {i f ln : Nat} {ds : List RawD} (h : RsI s i f ln ds) (hi : i ≤ s.size) : f ≤ i ∧ ∃ o, cutTo 10 s i = (o, f) ∧ ln = o.length ∧ ScrOk o ds := by
  rcases h with h | ⟨h, _⟩
  · exact h.2
  · omega
theorem RsI.on {s : ByteArray} {i f ln : Nat} {ds : List RawD} (h : RsI s i f ln ds) (hi : i < s.size) (hb : ¬ bt s i = 10) : RsI s (i + 1) f ln ds := by
  obtain ⟨h1, o, h2, h3, h4⟩ := h.here (by omega)
  exact .inl ⟨by omega, by omega, o, cutTo_no h2 hb, h3, h4⟩
theorem RsI.cutR {s : ByteArray} {i f ln : Nat} {ds ds' : List RawD} (h : RsI s i f ln ds) (hi : i ≤ s.size) (hb : i < s.size → bt s i = 10) (hw : ∀ o, ScrOk o ds → ScrOk (o ++ [s.extract f i]) ds') : RsI s (i + 1) (i + 1) (ln + 1) ds' := by
  obtain ⟨h1, o, h2, h3, h4⟩ := h.here hi
  by_cases hl : i < s.size
  · exact .inl ⟨by omega, Nat.le_refl _, _, cutTo_yes h2 (hb hl), by simp [h3], hw o h4⟩
  · have e : i = s.size := by omega
    subst e
    refine .inr ⟨rfl, ?_⟩
    unfold cutAll
    rw [h2]; exact hw o h4
theorem cut_prefix (c : Int) (s : ByteArray) : ∀ (n i : Nat), i + n = s.size → ∃ r, cutAll c s = (cutTo c s i).1 ++ r
  | 0, i, h => by
    have e : i = s.size := by omega
    subst e; exact ⟨_, rfl⟩
  | n + 1, i, h => by
    obtain ⟨r, hr⟩ := cut_prefix c s n (i + 1) (by omega)
    rw [cutTo] at hr
    split at hr
    · exact ⟨_, by rw [hr, List.append_assoc]⟩
    · exact ⟨r, hr⟩
theorem RsI.bad {s : ByteArray} {i f ln : Nat} {ds : List RawD} (h : RsI s i f ln ds) (hi : i ≤ s.size) (hb : i < s.size → bt s i = 10) (hs : ¬ skipB (s.extract f i) = true) {v : RawD} {e : Int} (hr : ReadS (s.extract f i) v e) (he : e ≠ 0) : ScrR (cutAll 10 s) [] (((ln : Nat) : Int) + 1) e := by
  obtain ⟨h1, o, h2, h3, h4⟩ := h.here hi
  have key : ∃ r, cutAll 10 s = o ++ s.extract f i :: r := by
    by_cases hl : i < s.size
    · obtain ⟨r, hr⟩ := cut_prefix 10 s (s.size - (i + 1)) (i + 1) (by omega)
      rw [cutTo_yes h2 (hb hl)] at hr
      exact ⟨r, by rw [hr]; simp⟩
    · have e : i = s.size := by omega
      subst e
      exact ⟨[], by unfold cutAll; rw [h2]⟩
  obtain ⟨r, hk⟩ := key
  have hg : (cutAll 10 s).getD o.length .empty = s.extract f i := by rw [hk]; simp [List.getD_eq_getElem?_getD]
  refine .inr ⟨o.length, ds, by rw [hk]; simp, by rw [hk]; simpa using h4, by rw [hg]; exact hs, ⟨v, by rw [hg]; exact hr⟩, he, by rw [h3], rfl⟩
theorem RsI.fin {s : ByteArray} {i f ln : Nat} {ds : List RawD} (h : RsI s i f ln ds) (hi : ¬ i ≤ s.size) : ScrR (cutAll 10 s) ds 0 0 := by
  rcases h with h | ⟨_, h⟩
  · exact absurd h.1 hi
  · exact .inl ⟨rfl, rfl, h⟩
end Go.Sx


/- What is written as a script is read as it. Conditions: those of each theorem. -/
namespace Go.Sx
set_option linter.unusedVariables false
set_option linter.unusedSimpArgs false
theorem size_of_ne {w : ByteArray} (h : ¬ w = ⟨#[]⟩) : 0 < w.size := by
  rcases Nat.eq_zero_or_pos w.size with h1 | h1
  · exact absurd (nil_eq h1) h
  · exact h1
theorem no_skip {w : ByteArray} (h : ¬ w = ⟨#[]⟩) (h2 : ¬ bt w 0 = 35) : ¬ skipB w = true := by
  have := size_of_ne h
  simp only [skipB, Bool.or_eq_true, decide_eq_true_eq, not_or]
  exact ⟨by omega, h2⟩
theorem yes_skip {w : ByteArray} (h : w = ⟨#[]⟩ ∨ bt w 0 = 35) : skipB w = true := by
  rcases h with rfl | h
  · rfl
  · simp [skipB, h]
theorem no_skip2 {w : ByteArray} (h : ¬ ((w.size : Nat) : Int) = 0) (h2 : ¬ bt w 0 = 35) : ¬ skipB w = true := by
  simp only [skipB, Bool.or_eq_true, decide_eq_true_eq, not_or]
  exact ⟨by omega, h2⟩
theorem yes_skip2 {w : ByteArray} (h : ((w.size : Nat) : Int) = 0 ∨ bt w 0 = 35) : skipB w = true := by
  rcases h with h | h
  · have : w.size = 0 := by omega
    simp [skipB, this]
  · simp [skipB, h]
theorem mem_join {b : UInt8} (sep : List UInt8) : ∀ {ws : List (List UInt8)}, b ∈ Lib.join ws sep → b ∈ sep ∨ ∃ w, w ∈ ws ∧ b ∈ w
  | [], h => by simp [Lib.join_nil] at h
  | x :: r, h => by
    rw [Lib.join_cons] at h
    rcases List.mem_append.1 h with h | h
    · exact .inr ⟨x, by simp, h⟩
    · simp only [Lib.joinTail, List.mem_flatten, List.mem_map] at h
      obtain ⟨l, ⟨w, hw, rfl⟩, hb⟩ := h
      rcases List.mem_append.1 hb with hb | hb
      · exact .inl hb
      · exact .inr ⟨w, by simp [hw], hb⟩
theorem name_nonl (k : Int) : (10 : UInt8) ∉ (opRowAt k).name.data.toList := by
  by_cases h : okK k = true
  · rcases okK_cases h with rfl | rfl | rfl | rfl | rfl | rfl | rfl | rfl | rfl | rfl | rfl | rfl | rfl | rfl | rfl | rfl | rfl | rfl | rfl | rfl | rfl | rfl | rfl | rfl <;> decide
  · unfold opRowAt; rw [if_neg h]; decide
theorem name_first {k : Int} (h : okK k = true) : ∃ b r, (opRowAt k).name.data.toList = b :: r ∧ b ≠ 35 := by
  rcases okK_cases h with rfl | rfl | rfl | rfl | rfl | rfl | rfl | rfl | rfl | rfl | rfl | rfl | rfl | rfl | rfl | rfl | rfl | rfl | rfl | rfl | rfl | rfl | rfl | rfl <;> exact ⟨_, _, rfl, by decide⟩
theorem line_nonl (r : RawD) : (10 : UInt8) ∉ (lineC r).1.data.toList := fun h => by
  unfold lineC at h
  split at h
  · rw [show ((joinW (lineW r), (0 : Int)) : ByteArray × Int).1 = joinW (lineW r) from rfl, joinW_data] at h
    rcases mem_join _ h with h | ⟨x, hx, hb⟩
    · revert h; decide
    · obtain ⟨w, hw, rfl⟩ := List.mem_map.1 hx
      unfold lineW tailW at hw
      rcases List.mem_cons.1 hw with rfl | hw
      · exact name_nonl _ hb
      · rcases List.mem_append.1 hw with hw | hw
        · obtain ⟨n, _, rfl⟩ := List.mem_map.1 hw
          rw [numB_data] at hb
          have := itoa_bytes n _ hb
          revert this; decide
        · split at hw
          · simp at hw
          · simp only [List.mem_singleton] at hw
            subst hw
            rw [eqH_data] at hb
            rcases List.mem_cons.1 hb with hb | hb
            · exact absurd hb (by decide)
            · have := hexL_mem hb
              revert this; decide
  · simp at h
theorem line_noskip {r : RawD} (h : (lineC r).2 = 0) : ¬ skipB (lineC r).1 = true := by
  obtain ⟨a, b⟩ := lineC_ok h
  obtain ⟨x, q, h1, h2⟩ := name_first (of_ok a).2
  have hd : (lineC r).1.data.toList = x :: (q ++ Lib.joinTail [32] ((tailW (r.nums.drop 1) r.text).map (·.data.toList))) := by
    rw [b, joinW_data]
    unfold lineW
    rw [List.map_cons, Lib.join_cons, h1]; rfl
  have hs := len_size (lineC r).1
  rw [hd] at hs
  have hb : bt (lineC r).1 0 = ((x.toNat : Nat) : Int) := by unfold bt; rw [hd]; rfl
  have hx : x.toNat ≠ 35 := fun e => h2 (UInt8.toNat_inj.1 e)
  simp only [skipB, hb, Bool.or_eq_true, decide_eq_true_eq, not_or]
  simp at hs
  omega
def linesL (ds : List RawD) : List ByteArray := ds.map fun d => (lineC d).1
theorem spl_flat : ∀ (ws : List (List UInt8)), (∀ w, w ∈ ws → (10 : UInt8) ∉ w) → spl 10 (ws.flatMap fun w => w ++ [10]) = ws ++ [[]]
  | [], _ => rfl
  | x :: r, h => by
    simp only [List.flatMap_cons, List.append_assoc, List.singleton_append]
    rw [spl_app 10 _ (h x (by simp)), spl_flat r fun w hw => h w (by simp [hw])]
    rfl
theorem txt_data (ds : List RawD) : ∀ k, k ≤ ds.length → (txtTo ds k).data.toList = ((linesL ds).take k |>.map (·.data.toList)).flatMap fun w => w ++ [10]
  | 0, _ => rfl
  | k + 1, h => by
    have hl : k < (linesL ds).length := by simp [linesL]; omega
    have e : (linesL ds).getD k .empty = (lineC (ds.getD k rawD0)).1 := by
      unfold linesL
      rw [List.getD_eq_getElem?_getD, List.getElem?_map, List.getD_eq_getElem?_getD, List.getElem?_eq_getElem (by omega)]; rfl
    rw [take_snoc _ .empty hl, List.map_append, List.flatMap_append, ← txt_data ds k (by omega), e, txtTo]
    simp
theorem cut_script (ds : List RawD) : cutAll 10 (⟨#[35, 32, 10, 10]⟩ ++ txtTo ds ds.length) = [⟨#[35, 32]⟩, ⟨#[]⟩] ++ linesL ds ++ [⟨#[]⟩] := by
  apply map_data_inj
  have h1 := cutAll_spl 10 (⟨#[35, 32, 10, 10]⟩ ++ txtTo ds ds.length)
  rw [show (((10 : UInt8).toNat : Nat) : Int) = 10 from rfl] at h1
  have hl : (linesL ds).length = ds.length := by simp [linesL]
  have h2 := txt_data ds ds.length (Nat.le_refl _)
  rw [List.take_of_length_le (by omega)] at h2
  rw [h1, ByteArray.data_append, Array.toList_append, h2]
  have h3 := spl_flat ((linesL ds).map (·.data.toList)) (fun w hw => by
    obtain ⟨x, hx, rfl⟩ := List.mem_map.1 hw
    obtain ⟨d, _, rfl⟩ := List.mem_map.1 hx
    exact line_nonl d)
  have e : (⟨#[35, 32, 10, 10]⟩ : ByteArray).data.toList ++ ((linesL ds).map (·.data.toList)).flatMap (fun w => w ++ [10]) = [35, 32] ++ 10 :: ([] ++ 10 :: ((linesL ds).map (·.data.toList)).flatMap (fun w => w ++ [10])) := rfl
  rw [e, spl_app 10 _ (by decide), spl_app 10 _ (by simp), h3]
  simp
theorem scr_lines (L : List ByteArray) (a : List RawD) (h : ScrOk L a) : ∀ (ds : List RawD), (∀ d, d ∈ ds → okL d.nums ∧ (lineC d).2 = 0) → ScrOk (L ++ linesL ds) (a ++ ds) := by
  suffices key : ∀ r : List RawD, (∀ d, d ∈ r.reverse → okL d.nums ∧ (lineC d).2 = 0) → ScrOk (L ++ linesL r.reverse) (a ++ r.reverse) by
    intro ds hd
    have := key ds.reverse (by simpa using hd)
    simpa using this
  intro r
  induction r with
  | nil => intro _; simpa [linesL] using h
  | cons d r ih =>
    intro hd
    simp only [List.reverse_cons] at hd ⊢
    have h1 := ih fun x hx => hd x (by simp at hx ⊢; exact .inl hx)
    obtain ⟨h2, h3⟩ := hd d (by simp)
    have h4 : ReadS (lineC d).1 d 0 := by
      obtain ⟨p, q⟩ := lineC_ok h3
      exact .inl ⟨rfl, h2, p, q.symm⟩
    have h5 := h1.add (line_noskip h3) h4
    simpa [linesL, List.append_assoc] using h5
theorem scr_written {ds z : List RawD} {a e : Int} (hd : ∀ d, d ∈ ds → okL d.nums) (h : okTo ds ds.length) (hz : ScrR (cutAll 10 (⟨#[35, 32, 10, 10]⟩ ++ txtTo ds ds.length)) z a e) : e = 0 ∧ z = ds := by
  have hok : ∀ d, d ∈ ds → okL d.nums ∧ (lineC d).2 = 0 := fun d hm => by
    refine ⟨hd d hm, ?_⟩
    obtain ⟨i, hi, rfl⟩ := List.mem_iff_getElem.1 hm
    have := h i hi
    simpa [List.getD_eq_getElem?_getD, hi] using this
  have h0 : ScrOk [⟨#[35, 32]⟩, ⟨#[]⟩] [] := by
    have h1 : ScrOk ([⟨#[35, 32]⟩] : List ByteArray) [] := ScrOk.skip (L := []) rfl (by decide)
    exact h1.skip (w := ⟨#[]⟩) (by decide)
  have h1 := (scr_lines _ _ h0 ds hok).skip (w := ⟨#[]⟩) (by decide)
  rw [← cut_script] at h1
  obtain ⟨p, _, q⟩ := hz.det (.inl ⟨rfl, rfl, h1⟩)
  exact ⟨q, by simpa using p⟩
theorem text_good {ds : List RawD} {t : ByteArray} {a e : Int} (h : TextR ds t a e) (he : e = 0) : t = txtTo ds ds.length ∧ okTo ds ds.length := by
  rcases h with ⟨_, _, h1, h2⟩ | ⟨k, _, _, _, h1, _⟩
  · exact ⟨h1, h2⟩
  · exact absurd he h1
theorem script_sizes {ds : List RawD} (hd : ∀ d, d ∈ ds → (lineC d).1.size ≤ 800) : ∀ x, x ∈ cutAll 10 (⟨#[35, 32, 10, 10]⟩ ++ txtTo ds ds.length) → x.size ≤ 900 := fun x hx => by
  rw [cut_script] at hx
  simp only [List.mem_append, List.mem_cons, List.not_mem_nil, or_false] at hx
  rcases hx with ((rfl | rfl) | hx) | rfl
  · decide
  · decide
  · obtain ⟨d, hm, rfl⟩ := List.mem_map.1 hx
    have := hd d hm; omega
  · decide
end Go.Sx


/- The walks of functions, printed by wip/tools/gw.py. -/
namespace Go.Proofs.YtnjjjmpdikpjaabDoor
open Go Go.Sx
set_option linter.unusedVariables false
set_option linter.unusedSimpArgs false
set_option maxRecDepth 20000 in
theorem text_any (la : Option Addr) (l : List RawP) (lc : Nat) (w : World) (rl : RdT tyRawP w (.slice la l.length lc) l) (dl : inRaw.Rd w l) (lw : Laid w) (hfo : ∀ p, p ∈ l → FewOk p) (hll : l.length ≤ 12) :
   Calls Tryd.prog 13 #[.slice la l.length lc] w (Ret fun v w' => ∃ t : ByteArray, ∃ ta : Int, ∃ te : Int, v = .tuple #[.string t, .int .i64 ta, .int .i64 te] ∧ Upd w [] w' [] ∧ (TextR (rdsOf l) t ta te) ∧ (t.size ≤ 20000)) := by
 have le_rl := rl.le
 refine calls_of_W (args := [.slice la l.length lc]) Tryd.func13 rfl rfl rfl ?_
 have H0 : UpG w [] w [] := UpG.nil w
 show W _ _ _ _ [(0, _)] w
 refine sr (ag rfl (ag rfl (ag rfl (dc (W.seq (W.region (oo (d_alloc sz71 fun w1 u1 => ?_))))))))
 have H1 : UpG _ _ _ [[_]] := H0.new' u1
 refine dc (W.seq (W.seq (W.region (mv rfl (oo (d_lenS y33 rfl (mv rfl (dc (W.block ?_)))))))))
 have H2 : UpG w [] w1 [[blk w.heap.size #[.pointer none, .slice none (([] : List Int).length) 0] 71], [rowT (tyI .u8) (.slice none (([] : List Int).length) 0) 5 ([] : List Int)]] := H1.new' (Upd.nilRowT w1 (tyI .u8) 5)
 refine W.lp (B := [(11, _), (10, _), (5, _), (4, _), (3, _), (2, _)]) [12, 11, 10, 5, 4, 3, 2] (fun B R L m Γ' w' => ∃ k : Nat, ∃ pv : Value, ∃ ba : Option Addr, ∃ bx : List Int, ∃ bc : Nat, Γ' = (12, .int .i64 ((k : Nat) : Int)) :: B ∧ UpG w L w' ([blk w.heap.size #[pv, .slice ba bx.length bc] 71] :: [rowT (tyI .u8) (.slice ba bx.length bc) 5 bx] :: R) ∧ (k ≤ l.length) ∧ (pv = .pointer none ∨ pv = .pointer (some ⟨w.heap.size, 0, none⟩)) ∧ (strOfNums bx = txtTo (rdsOf l) k) ∧ (bx.length ≤ 801 * k) ∧ (∀ x, x ∈ bx → 0 ≤ x ∧ x ≤ 255) ∧ (okTo (rdsOf l) k) ∧ m = l.length - k) (l.length - 0) ⟨0, (.pointer none), none, ([] : List Int), 0, rfl, (H2.re rfl), (by omega), (by exact .inl rfl), (by rfl), (by simp), (by simp), (by exact fun j hj => by omega), rfl⟩ rfl ?_
 rintro m1 Γ1 w2 ⟨k, pv, ba, bx, bc, rfl, H3, hk, hpv, hbx, hbz, hbr, hok, rfl⟩
 refine sr (oo (d_cmp _ rfl rfl rfl (dc (W.seq ?_))))
 refine W.ite rfl (fun c63 => ?_) (fun c63 => ?_)
 · refine sc (W.seq (W.block (W.seq (W.region (mv rfl (oo (t_addrN k (T := tyRawP) rfl y33 sz25 rfl rfl (rl.at H3) rfl (by omega) (oo (t_loadN k rawP0 (T := tyRawP) (us := [_, _]) rfl y25 rfl sz25 rfl (rl.at H3) (by omega) rfl (oo (d_alloc sz25 fun w3 u2 => ?_)))))))))))
   have H4 : UpG _ _ _ [[_], [_], [_]] := H3.new' u2
   refine ag rfl (WL.op0 (d_storeAB (us := [_, _]) (cs' := #[_, _]) sz25 rfl rfl rfl rfl (H4.blk 2 rfl) rfl rfl fun w4 u3 => ?_))
   have H5 : UpG _ _ _ [[_], [_], [_]] := H4.on 2 rfl u3
   refine dc (W.seq ?_)
   have hq := hfo _ (getD_mem' (d := rawP0) (show k < l.length by omega))
   have hrg := rds_get l k
   have hq1 := hq.nums
   have hq2 := hq.text
   have hqs := hq.size
   refine W.region (oo (d_loadAB [_, _] y25 rfl sz25 rfl (H5.blk 2 rfl) rfl rfl (oo (d_call ok11 rfl (Ret.calls (line_any ((l.getD k rawP0).d) _ _ w4 (show RdT (tyI .i64) w4 (.slice ((l.getD k rawP0).a) (((l.getD k rawP0).d.nums).length) ((l.getD k rawP0).c)) ((l.getD k rawP0).d.nums) from (dl.at H5).get rawP0 k (by omega)) (lw.at H5) hq.cap hq.ok (by omega) (by omega)) fun _ w5 p1 => ?_)))))
   obtain ⟨rfl, u4⟩ := p1
   have H6 : UpG _ _ _ [[_], [_], [_]] := H5.call u4
   refine mv rfl (oo (d_extract rfl rfl (oo (d_extract rfl rfl (ag rfl (ag rfl (dc (W.seq (W.seq (W.region (mv rfl (oo (d_cmp _ rfl rfl rfl (dc ?_))))))))))))))
   refine W.ite rfl (fun c65 => ?_) (fun c65 => ?_)
   · refine sr (mv rfl (oo (d_add rfl rfl (by omega) (by omega) (mv rfl (ag rfl (ag rfl (ag rfl (dc (W.ret (X.then_ret (X.block_ret (X.then_ret (X.then_ret (X.block_ret (X.then_ret (X.ret3 rfl rfl rfl rfl ?_))))))))))))))))
     exact ⟨⟨#[]⟩, ((k : Nat) : Int) + 1, (lineC ((l.getD k rawP0).d)).2, rfl, H6.noneL, (.inr ⟨k, by rw [rds_len]; omega, rfl, by rw [hrg], by simpa using c65, rfl, hok⟩), (Nat.zero_le _)⟩
   · refine sc (W.seq ?_)
     have hl0 : (lineC (l.getD k rawP0).d).2 = 0 := by simpa using c65
     refine W.region (mv rfl ?_)
     have H7 : UpG _ _ _ [[_, _], [_]] := UpG.of (Upd.sel H6 (l := [0, 1, 2]) rfl rfl) rfl
     refine oo (d_call ok32 rfl (Ret.calls (writeString_any _ pv ba bx bc _ w5 (H7.hpOf 0 rfl)  hpv (by omega)) fun _ w6 p2 => ?_))
     obtain ⟨ba2_1, bc2_1, rfl, u5⟩ := p2
     have H8 : UpG _ _ _ [[_, _], [_]] := H7.on 0 rfl u5
     refine dc (W.region (oo (d_call ok33 rfl (Ret.calls (writeByte_any _ (.pointer (some ⟨w.heap.size, 0, none⟩)) ba2_1 (bx ++ bytesL ((lineC ((l.getD k rawP0).d)).1)) bc2_1 _ w6 (H8.hpOf 0 rfl)  (.inr rfl) (by rw [List.length_append, bytesL_len]; omega)) fun _ w7 p3 => ?_))))
     obtain ⟨ba2_2, bc2_2, rfl, u6⟩ := p3
     have H9 : UpG _ _ _ [[_, _], [_]] := H8.on 0 rfl u6
     refine WL.done (X.block_normal (X.then_code (W.region (oo (d_add rfl rfl (by omega) (by omega) (mv rfl (WL.done ?_)))))))
     exact X.nx [12, 11, 10, 5, 4, 3, 2] (l.length - (k + 1)) (by omega) ⟨k + 1, (.pointer (some ⟨w.heap.size, 0, none⟩)), ba2_2, (bx ++ bytesL ((lineC ((l.getD k rawP0).d)).1)) ++ [10], bc2_2, rfl, (H9.pm [0, 1] rfl rfl), (by omega), (by exact .inr rfl), (by rw [txtTo, ← hbx, hrg, bytes_app2]), (by rw [List.length_append, List.length_append, bytesL_len, List.length_singleton]; omega), (by exact bytes_rng2 hbr (by decide)), (by exact hok.succ (by rw [hrg]; exact hl0)), rfl⟩ rfl
 · refine W.exit (X.then_exit (X.then_exit (X.block_exit (X.then_code (W.seq (W.region ?_))))))
   have H10 : UpG _ _ _ [[_, _]] := UpG.of (Upd.sel H3 (l := [0, 1]) rfl rfl) rfl
   refine oo (d_call ok34 rfl (Ret.calls (builderString_any _ pv ba bx bc w2 (H10.hpOf 0 rfl)  hpv hbr w (Nat.le_refl _) H10.keep0 (fresh_row H10 0 rfl)) fun _ w8 p4 => ?_))
   obtain ⟨rfl, u7⟩ := p4
   have H11 : UpG _ _ _ [] := (show UpG _ _ _ [] from u7)
   refine ag rfl (ag rfl (ag rfl (dc (W.ret (X.ret3 rfl rfl rfl rfl ?_)))))
   exact ⟨strOfNums bx, 0, 0, rfl, H11.noneL, (by have e9 : k = (rdsOf l).length := (by rw [rds_len]; omega); rw [e9] at hbx hok; exact .inl ⟨rfl, rfl, hbx, hok⟩), (by rw [strOfNums_size]; omega)⟩
end Go.Proofs.YtnjjjmpdikpjaabDoor


/- The walks of functions, printed by wip/tools/gw.py. -/
namespace Go.Proofs.YtnjjjmpdikpjaabDoor
open Go Go.Sx
set_option linter.unusedVariables false
set_option linter.unusedSimpArgs false
set_option maxRecDepth 20000 in
theorem rawsSame_any (aa : Option Addr) (a : List RawP) (ac : Nat) (ba : Option Addr) (b : List RawP) (bc : Nat) (w : World) (ra : RdT tyRawP w (.slice aa a.length ac) a) (rb : RdT tyRawP w (.slice ba b.length bc) b) (da : inRaw.Rd w a) (db : inRaw.Rd w b) :
   Calls Tryd.prog 16 #[.slice aa a.length ac, .slice ba b.length bc] w (Ret fun v w' => v = .bool (decide (rdsOf a = rdsOf b)) ∧ Upd w [] w' []) := by
 have le_ra := ra.le
 have le_rb := rb.le
 refine calls_of_W (args := [.slice aa a.length ac, .slice ba b.length bc]) Tryd.func16 rfl rfl rfl ?_
 have H0 : UpG w [] w [] := UpG.nil w
 show W _ _ _ _ [(0, _), (1, _)] w
 refine sr (ag rfl (dc (W.seq (W.seq (W.region (mv rfl (oo (d_lenS y33 rfl (mv rfl (oo (d_lenS y33 rfl (oo (d_cmp _ rfl rfl rfl (dc ?_))))))))))))))
 refine W.ite rfl (fun c81 => ?_) (fun c81 => ?_)
 · refine sr (ag rfl (dc (W.ret (X.then_ret (X.ret1 rfl rfl ?_)))))
   have hne : ¬ rdsOf a = rdsOf b := fun h => by have h9 := congrArg List.length h; rw [rds_len, rds_len] at h9; omega
   exact ⟨(by rw [decide_eq_false hne]), H0.noneL⟩
 · refine sc (W.seq (W.seq (W.region (ag rfl (dc (W.block (W.lp (B := [(4, _), (0, _), (1, _)]) [5, 4, 0, 1] (fun B R L m Γ' w' => ∃ k : Nat, Γ' = (5, .int .i64 ((k : Nat) : Int)) :: B ∧ UpG w L w' (R) ∧ (k ≤ a.length) ∧ ((rdsOf a).take k = (rdsOf b).take k) ∧ m = a.length - k) (a.length - 0) ⟨0, rfl, H0, (by first | assumption | omega | simp), (by simp), rfl⟩ rfl ?_)))))))
   rintro m1 Γ1 w1 ⟨k, rfl, H1, hk, hs, rfl⟩
   refine W.seq (W.seq (W.region (mv rfl (mv rfl (oo (d_lenS y33 rfl (oo (d_cmp _ rfl rfl rfl (dc ?_)))))))))
   refine W.ite rfl (fun c84 => ?_) (fun c84 => ?_)
   · refine sc (W.seq (W.block (W.seq (W.regionD mixed (by kernel_rfl) fun hok1 w2 k1 => ?_))))
     have H2 : UpG _ _ _ [] := H1.kept k1
     refine tm hok1 0 rfl rfl (tm hok1 1 rfl rfl (tr hok1 2 (ra.at H2) rfl rfl (fun _ hC => t_addrN k (T := tyRawP) rfl y33 sz25 rfl rfl hC rfl (by omega) ⟨rfl, rfl⟩) (tr hok1 3 (ra.at H2) rfl rfl (fun _ hC => t_loadN k rawP0 (T := tyRawP) (us := [_, _]) rfl y25 rfl sz25 rfl hC (by omega) rfl ⟨rfl, rfl⟩) (tm hok1 4 rfl rfl (tm hok1 5 rfl rfl (tr hok1 6 (rb.at H2) rfl rfl (fun _ hC => t_addrN k (T := tyRawP) rfl y33 sz25 rfl rfl hC rfl (by omega) ⟨rfl, rfl⟩) (tr hok1 7 (rb.at H2) rfl rfl (fun _ hC => t_loadN k rawP0 (T := tyRawP) (us := [_, _]) rfl y25 rfl sz25 rfl hC (by omega) rfl ⟨rfl, rfl⟩) (wo hok1 8 (lo [] rfl rfl (d_call ok9 rfl (Ret.calls (rawSame_any ((a.getD k rawP0).d) _ _ ((b.getD k rawP0).d) _ _ w2 (show RdT (tyI .i64) w2 (.slice ((a.getD k rawP0).a) (((a.getD k rawP0).d.nums).length) ((a.getD k rawP0).c)) ((a.getD k rawP0).d.nums) from (da.at H2).get rawP0 k (by omega)) (show RdT (tyI .i64) w2 (.slice ((b.getD k rawP0).a) (((b.getD k rawP0).d.nums).length) ((b.getD k rawP0).c)) ((b.getD k rawP0).d.nums) from (db.at H2).get rawP0 k (by omega)) ) fun _ w3 p1 => ?_)))))))))))
     obtain ⟨rfl, u1⟩ := p1
     have H3 : UpG _ _ _ [] := H2.call u1
     refine ⟨trivial, (tq hok1 9 rfl rfl (fun _ => d_notB rfl ⟨rfl, rfl⟩) (WD.done hok1 rfl (X.then_code ?_)))⟩
     refine W.iteB rfl (fun c85 => ?_) (fun c85 => ?_)
     · refine sr (ag rfl (dc (W.ret (X.block_ret (X.then_ret (X.then_ret (X.block_ret (X.then_ret (X.ret1 rfl rfl ?_)))))))))
       have hne : ¬ rdsOf a = rdsOf b := fun h => by have h9 : (a.getD k rawP0).d = (b.getD k rawP0).d := by { rw [← rds_get, ← rds_get, h] }; rw [h9] at c85; simp at c85
       exact ⟨(by rw [decide_eq_false hne]), H3.noneL⟩
     · refine W.skip (X.block_normal (X.then_code (W.region (mv rfl (oo (d_add rfl rfl (by omega) (by omega) (ag rfl (WL.done ?_))))))))
       exact X.nx [5, 4, 0, 1] (a.length - (k + 1)) (by omega) ⟨k + 1, rfl, H3, (by first | assumption | omega | simp), (by exact take_sameR hs (by omega) (by omega) (by simpa using c85)), rfl⟩ rfl
   · refine W.exit (X.then_exit (X.then_exit (X.block_exit (X.then_code (W.seq (W.region (ag rfl (dc (W.ret (X.ret1 rfl rfl ?_))))))))))
     have he : rdsOf a = rdsOf b := same_takeR hs (by omega) (by omega)
     exact ⟨(by rw [decide_eq_true he]), H1.noneL⟩

set_option maxRecDepth 20000 in
theorem script_any (s : ByteArray) (w : World) (lw : Laid w) (hs : s.size ≤ 40000) (hlz : ∀ x, x ∈ cutAll 10 s → x.size ≤ 900) :
   Calls Tryd.prog 14 #[.string s] w (Ret fun v w' => ∃ a2 : Option Addr, ∃ qs : List RawP, ∃ c2 : Nat, ∃ sa : Int, ∃ se : Int, v = .tuple #[.slice a2 qs.length c2, .int .i64 sa, .int .i64 se] ∧ Upd w [] w' [rowT tyRawP (.slice a2 qs.length c2) 25 qs, manyF inRaw.row qs] ∧ (ScrR (cutAll 10 s) (rdsOf qs) sa se)) := by
 have hcl := cutAll_len 10 s
 refine calls_of_W (args := [.string s]) Tryd.func14 rfl rfl rfl ?_
 have H0 : UpG w [] w [] := UpG.nil w
 show W _ _ _ _ [(0, _)] w
 refine sr (ag rfl (ag rfl (ag rfl (dc (W.seq (W.seq (W.region (mv rfl (oo (d_lenStr y9 rfl (oo (d_cmp _ rfl rfl rfl (dc ?_)))))))))))))
 refine W.ite rfl (fun c76 => ?_) (fun c76 => ?_)
 · exfalso; omega
 · refine sc (W.seq (W.region (ag rfl (dc (W.seq (W.seq (W.region (mv rfl (oo (d_call ok17 rfl (Ret.calls (splitL_any _ w  (lw.at H0) (by omega)) fun _ w1 p1 => ?_)))))))))))
   obtain ⟨a2_1, c2_1, rfl, u1⟩ := p1
   have H1 : UpG _ _ _ [[_]] := (H0.new' u1).re rfl
   refine oo (d_lenS y48 rfl (mv rfl (dc (W.block ?_))))
   have H2 : UpG _ _ _ [[_], [_]] := H1.new' (Upd.manyNil inRaw.row w1)
   have H3 : UpG _ _ _ [[_], [_], [_]] := H2.new' (Upd.nilRowT w1 tyRawP 25)
   have H4 : UpG _ _ _ [[_], [_], [_]] := H3.pm [1, 2, 0] rfl rfl
   refine W.lp (B := [(15, _), (14, _), (4, _), (3, _), (2, _)]) [16, 5, 15, 14, 4, 3, 2] (fun B R L m Γ' w' => ∃ k : Nat, ∃ qs : List RawP, ∃ qa : Option Addr, ∃ qc : Nat, Γ' = (16, .int .i64 ((k : Nat) : Int)) :: (5, .slice qa qs.length qc) :: B ∧ UpG w L w' ([manyF inRaw.row qs] :: [rowT tyRawP (.slice qa qs.length qc) 25 qs] :: R) ∧ (k ≤ (cutAll 10 s).length) ∧ (ScrOk ((cutAll 10 s).take k) (rdsOf qs)) ∧ (qs.length ≤ k) ∧ m = (cutAll 10 s).length - k) ((cutAll 10 s).length - 0) ⟨0, ([] : List RawP), none, 0, rfl, H4, (by omega), (by exact rfl), (by simp), rfl⟩ rfl ?_
   rintro m1 Γ1 w2 ⟨k, qs, qa, qc, rfl, H5, hk, hsc, hql, rfl⟩
   refine sr (oo (d_cmp _ rfl rfl rfl (dc (W.seq ?_))))
   refine W.ite rfl (fun c80 => ?_) (fun c80 => ?_)
   · refine sc (W.seq (W.block (W.seq (W.region (mv rfl (oo (t_addr1 k (T := tyS) rfl y48 sz9 rfl rfl (H5.rdT 2 rfl) rfl (by omega) (oo (t_load1 k .empty (T := tyS) rfl y9 rfl rfl (H5.rdT 2 rfl) (by omega) rfl (ag rfl (ag rfl (dc (W.seq (W.seq ?_))))))))))))))
     have hwz := hlz _ (getD_mem' (d := .empty) (show k < (cutAll 10 s).length by omega))
     refine W.region (mv rfl (oo (d_streq rfl rfl (mv rfl ?_))))
     refine WL.part 23 rfl (fun g81 => ?_) (fun g81 => ?_)
     · refine WL.opN rfl rfl rfl rfl (WL.opN rfl rfl rfl rfl (WL.opN rfl rfl rfl rfl (oo (d_pick rfl rfl (dc (W.ift rfl (W.exit (X.then_exit (X.block_exit (X.then_code (W.region (oo (d_add rfl rfl (by omega) (by omega) (mv rfl (WL.done ?_)))))))))))))))
       exact X.nx [16, 5, 15, 14, 4, 3, 2] ((cutAll 10 s).length - (k + 1)) (by omega) ⟨k + 1, qs, qa, qc, rfl, H5, (by omega), (by first | (rw [take_snoc (cutAll 10 s) .empty (by omega), rds_app]; exact hsc.add hns (by have h8 := hr1; rw [Classical.not_not.1 c85] at h8; exact h8)) | (rw [take_snoc (cutAll 10 s) .empty (by omega)]; exact hsc.skip (yes_skip (by first | exact .inl g81 | exact .inr c81)))), (by first | omega | (simp; omega)), rfl⟩ rfl
     · refine WL.opG rfl rfl rfl (d_move rfl (WL.opG rfl rfl rfl (d_idxStrN 0 y9 rfl rfl rfl (by exact size_of_ne g81) (WL.opG rfl rfl rfl (d_cmp _ rfl rfl rfl (oo (d_pick rfl rfl (dc ?_))))))))
       refine W.ite rfl (fun c81 => ?_) (fun c81 => ?_)
       · refine W.exit (X.then_exit (X.block_exit (X.then_code (W.region (oo (d_add rfl rfl (by omega) (by omega) (mv rfl (WL.done ?_))))))))
         exact X.nx [16, 5, 15, 14, 4, 3, 2] ((cutAll 10 s).length - (k + 1)) (by omega) ⟨k + 1, qs, qa, qc, rfl, H5, (by omega), (by first | (rw [take_snoc (cutAll 10 s) .empty (by omega), rds_app]; exact hsc.add hns (by have h8 := hr1; rw [Classical.not_not.1 c85] at h8; exact h8)) | (rw [take_snoc (cutAll 10 s) .empty (by omega)]; exact hsc.skip (yes_skip (by first | exact .inl g81 | exact .inr c81)))), (by first | omega | (simp; omega)), rfl⟩ rfl
       · refine sc (W.seq ?_)
         have hns : ¬ skipB ((cutAll 10 s).getD k .empty) = true := no_skip (by first | exact g81 | simpa using g81) (by first | exact c81 | simpa using c81)
         refine W.region (mv rfl (oo (d_call ok7 rfl (Ret.calls (read_any _ w2  (lw.at H5) (by omega)) fun _ w3 p2 => ?_))))
         obtain ⟨ra2_1, rc2_1, rd_1, re_1, rfl, u2, hr1, hb1⟩ := p2
         have H6 : UpG _ _ _ [[_], [_], [_], [_]] := (H5.new' u2).re rfl
         refine mv rfl (oo (d_extract rfl rfl (oo (d_extract rfl rfl (oo (d_alloc sz25 fun w4 u3 => ?_))))))
         have H7 : UpG _ _ _ [[_], [_], [_], [_], [_]] := H6.new' u3
         refine WL.op0 (d_storeAB (us := [_, _]) (cs' := #[_, _]) sz25 rfl rfl rfl rfl (H7.blk 4 rfl) rfl rfl fun w5 u4 => ?_)
         have H8 : UpG _ _ _ [[_], [_], [_], [_], [_]] := H7.on 4 rfl u4
         refine ag rfl (dc (W.seq (W.seq (W.region (mv rfl (oo (d_cmp _ rfl rfl rfl (dc ?_))))))))
         refine W.ite rfl (fun c85 => ?_) (fun c85 => ?_)
         · refine sr (mv rfl (oo (d_add rfl rfl (by omega) (by omega) (mv rfl (ag rfl (ag rfl (ag rfl (dc (W.pick [4, 3, 2] (Γ' := [(4, _), (3, _), (2, _)]) rfl (W.ret (X.then_ret (X.block_ret (X.then_ret (X.then_ret (X.block_ret (X.then_ret (X.ret3 rfl rfl rfl rfl ?_)))))))))))))))))
           have H9 : UpG _ _ _ [[_], [_], [_], [_], [_], [_]] := H8.new' (Upd.nilRowT w5 tyRawP 25)
           have H10 : UpG _ _ _ [[_], [_], [_], [_], [_], [_], [_]] := H9.new' (Upd.manyNil inRaw.row w5)
           exact ⟨none, [], 0, ((k : Nat) : Int) + 1, re_1, (by rfl), (Upd.sel H10 (l := [5, 6]) rfl rfl), (.inr ⟨k, _, by omega, hsc, hns, ⟨_, hr1⟩, c85, rfl, rfl⟩)⟩
         · refine sc (W.region (mv rfl (oo (d_loadAB [_, _] y25 rfl sz25 rfl (H8.blk 4 rfl) rfl rfl (oo (t_buildSlice (T := tyRawP) (xs := ([⟨ra2_1, rc2_1, ⟨rd_1.nums, rd_1.text⟩⟩] : List RawP)) (cs := #[.slice ra2_1 rd_1.nums.length rc2_1, .string rd_1.text]) rfl y33 sz25 rfl rfl rfl rfl (by kernel_rfl) rfl rfl fun w6 u5 => ?_))))))
           have H11 : UpG _ _ _ [[_], [_], [_], [_], [_], [_]] := H8.new' u5
           refine oo (t_append (T := tyRawP) (xs := qs) (ys := ([⟨ra2_1, rc2_1, ⟨rd_1.nums, rd_1.text⟩⟩] : List RawP)) rfl y33 sz25 rfl rfl rfl (H11.ownT 1 rfl) (H11.rdT 5 rfl) (by simp; omega) (by simp; omega) fun a1 c1 w7 u6 => ?_)
           have H12 : UpG _ _ _ [[_], [_], [_], [_], [_], []] := (H11.on 1 rfl u6).drop 5
           have H13 : UpG _ _ _ [[_], [_], [_], [], [_], []] := (UpG.absorb (f := inRaw.row) (⟨ra2_1, rc2_1, ⟨rd_1.nums, rd_1.text⟩⟩ : RawP) H12 0 3 rfl rfl rfl).re rfl
           refine ag rfl (WL.done (X.block_normal (X.then_code (W.pick [5, 26, 25, 24, 16, 15, 14, 4, 3, 2] (Γ' := [(5, _), (26, _), (25, _), (24, _), (16, _), (15, _), (14, _), (4, _), (3, _), (2, _)]) rfl (W.region (oo (d_add rfl rfl (by omega) (by omega) (mv rfl (WL.done ?_)))))))))
           exact X.nx [16, 5, 15, 14, 4, 3, 2] ((cutAll 10 s).length - (k + 1)) (by omega) ⟨k + 1, qs ++ ([⟨ra2_1, rc2_1, ⟨rd_1.nums, rd_1.text⟩⟩] : List RawP), a1, c1, rfl, (H13.pm [0, 1, 2] rfl rfl), (by omega), (by first | (rw [take_snoc (cutAll 10 s) .empty (by omega), rds_app]; exact hsc.add hns (by have h8 := hr1; rw [Classical.not_not.1 c85] at h8; exact h8)) | (rw [take_snoc (cutAll 10 s) .empty (by omega)]; exact hsc.skip (yes_skip (by first | exact .inl g81 | exact .inr c81)))), (by first | omega | (simp; omega)), rfl⟩ rfl
   · refine W.exit (X.then_exit (X.then_exit (X.block_exit (X.then_code (W.seq (W.region (mv rfl (ag rfl (ag rfl (ag rfl (dc (W.ret (X.ret3 rfl rfl rfl rfl ?_)))))))))))))
     exact ⟨qa, qs, qc, 0, 0, rfl, (Upd.sel H5 (l := [1, 0]) rfl rfl), (by have e9 : k = (cutAll 10 s).length := (by omega); rw [e9, List.take_of_length_le (Nat.le_refl _)] at hsc; exact .inl ⟨rfl, rfl, hsc⟩)⟩

set_option maxRecDepth 20000 in
theorem refScript_any (s : ByteArray) (w : World) (hs : s.size ≤ 300) :
   Calls Tryd.prog 15 #[.string s] w (Ret fun v w' => ∃ a2 : Option Addr, ∃ qs : List RawP, ∃ c2 : Nat, ∃ sa : Int, ∃ se : Int, v = .tuple #[.slice a2 qs.length c2, .int .i64 sa, .int .i64 se] ∧ Upd w [] w' [rowT tyRawP (.slice a2 qs.length c2) 25 qs, manyF inRaw.row qs] ∧ (ScrR (cutAll 10 s) (rdsOf qs) sa se)) := by
 refine calls_of_W (args := [.string s]) Tryd.func15 rfl rfl rfl ?_
 have H0 : UpG w [] w [] := UpG.nil w
 show W _ _ _ _ [(0, _)] w
 refine sr (ag rfl (ag rfl (ag rfl (dc (W.seq (W.region (ag rfl (dc (W.seq (W.region (ag rfl (dc (W.seq (W.region (ag rfl (dc (W.seq (W.seq (W.region (ag rfl (dc (W.block ?_))))))))))))))))))))))
 have H1 : UpG _ _ _ [[_]] := H0.new' (Upd.manyNil inRaw.row w)
 have H2 : UpG _ _ _ [[_], [_]] := H1.new' (Upd.nilRowT w tyRawP 25)
 refine W.lp (B := [(4, _), (3, _), (2, _), (0, _)]) [8, 7, 6, 5, 4, 3, 2, 0] (fun B R L m Γ' w' => ∃ i : Nat, ∃ f : Nat, ∃ ln : Nat, ∃ qs : List RawP, ∃ qa : Option Addr, ∃ qc : Nat, Γ' = (8, .int .i64 ((i : Nat) : Int)) :: (7, .int .i64 ((ln : Nat) : Int)) :: (6, .int .i64 ((f : Nat) : Int)) :: (5, .slice qa qs.length qc) :: B ∧ UpG w L w' ([manyF inRaw.row qs] :: [rowT tyRawP (.slice qa qs.length qc) 25 qs] :: R) ∧ (i ≤ s.size + 1) ∧ (RsI s i f ln (rdsOf qs)) ∧ (ln ≤ i ∧ f ≤ i) ∧ (qs.length ≤ i) ∧ m = s.size + 1 - i) (s.size + 1 - 0) ⟨0, 0, 0, ([] : List RawP), none, 0, rfl, H2, (by omega), (by exact RsI.start s), (by omega), (by simp), rfl⟩ rfl ?_
 rintro m1 Γ1 w1 ⟨i, f, ln, qs, qa, qc, rfl, H3, hi, hsc, hln, hql, rfl⟩
 refine W.seq (W.seq (W.region (mv rfl (mv rfl (oo (d_lenStr y9 rfl (oo (d_cmp _ rfl rfl rfl (dc ?_)))))))))
 refine W.ite rfl (fun c60 => ?_) (fun c60 => ?_)
 · refine sc (W.seq (W.block ?_))
   refine W.ct (B := [(8, _), (7, _), (6, _), (5, _), (4, _), (3, _), (2, _), (0, _)]) (R := [[_], [_]]) [8, 7, 6, 5, 4, 3, 2, 0] 0 rfl H3 rfl (fun B R L Γ' w' => Γ' = B ∧ UpG w L w' (R) ∧ (i < s.size → bt s i = 10)) ?_ ?_
   · refine sr (mv rfl (mv rfl (oo (d_lenStr y9 rfl (oo (d_cmp _ rfl rfl rfl (mv rfl ?_)))))))
     refine WL.part 22 rfl (fun g61 => ?_) (fun g61 => ?_)
     · refine WL.opG rfl rfl rfl (d_move rfl (WL.opG rfl rfl rfl (d_move rfl (WL.opG rfl rfl rfl (d_idxStrN i y9 rfl rfl rfl (by omega) (WL.opG rfl rfl rfl (d_cmp _ rfl rfl rfl (oo (d_pick rfl rfl (dc ?_))))))))))
       refine W.ite rfl (fun c61 => ?_) (fun c61 => ?_)
       · refine W.exit (X.then_exit (X.block_exit (X.then_code (W.region (mv rfl (oo (d_add rfl rfl (by omega) (by omega) (ag rfl (WL.done ?_)))))))))
         exact X.nx [8, 7, 6, 5, 4, 3, 2, 0] (s.size + 1 - (i + 1)) (by omega) ⟨i + 1, f, ln, qs, qa, qc, rfl, H3, (by omega), (by first | exact hsc.on (by omega) (by simpa using c61) | exact hsc.cutR (by omega) hbt (fun o h8 => h8.skip (yes_skip2 (by first | exact .inl g67 | exact .inr c67))) | (rw [rds_app]; exact hsc.cutR (by omega) hbt (fun o h8 => h8.add hns (by have h7 := hr1; rw [Classical.not_not.1 c71] at h7; exact h7)))), (by omega), (by first | omega | (simp; omega)), rfl⟩ rfl
       · refine W.skip ?_
         exact X.cu [8, 7, 6, 5, 4, 3, 2, 0] ⟨rfl, H3, (by first | exact fun h9 => absurd h9 (by omega) | (intro h9; simpa using c61))⟩ rfl
     · refine WL.opN rfl rfl rfl rfl (WL.opN rfl rfl rfl rfl (WL.opN rfl rfl rfl rfl (WL.opN rfl rfl rfl rfl (oo (d_pick rfl rfl (dc (W.iff rfl (W.skip ?_))))))))
       exact X.cu [8, 7, 6, 5, 4, 3, 2, 0] ⟨rfl, H3, (by first | exact fun h9 => absurd h9 (by omega) | (intro h9; simpa using c61))⟩ rfl
   rintro Γ2 w2 ⟨rfl, H4, hbt⟩
   refine sr (mv rfl (oo (d_add rfl rfl (by omega) (by omega) (ag rfl (dc (W.seq (W.region (mv rfl (mv rfl (mv rfl (oo (d_substrN ((f : Nat) : Int) ((i : Nat) : Int) f i y9 rfl rfl rfl (.inr ⟨_, rfl⟩) (.inr ⟨_, rfl⟩) (by omega) (by omega) ⟨by omega, by omega, by omega⟩ (ag rfl (dc (W.seq (W.region (mv rfl (oo (d_add rfl rfl (by omega) (by omega) (ag rfl (dc (W.seq (W.seq ?_)))))))))))))))))))))))
   have hxz : (s.extract f i).size ≤ 300 := by rw [ByteArray.size_extract]; omega
   refine W.region (mv rfl (oo (d_lenStr y9 rfl (oo (d_cmp _ rfl rfl rfl (mv rfl ?_))))))
   refine WL.part 39 rfl (fun g67 => ?_) (fun g67 => ?_)
   · refine WL.opN rfl rfl rfl rfl (WL.opN rfl rfl rfl rfl (WL.opN rfl rfl rfl rfl (oo (d_pick rfl rfl (dc (W.ift rfl (W.exit (X.then_exit (X.block_exit (X.then_code (W.region (mv rfl (oo (d_add rfl rfl (by omega) (by omega) (ag rfl (WL.done ?_))))))))))))))))
     exact X.nx [8, 7, 6, 5, 4, 3, 2, 0] (s.size + 1 - (i + 1)) (by omega) ⟨i + 1, i + 1, ln + 1, qs, qa, qc, rfl, H4, (by omega), (by first | exact hsc.on (by omega) (by simpa using c61) | exact hsc.cutR (by omega) hbt (fun o h8 => h8.skip (yes_skip2 (by first | exact .inl g67 | exact .inr c67))) | (rw [rds_app]; exact hsc.cutR (by omega) hbt (fun o h8 => h8.add hns (by have h7 := hr1; rw [Classical.not_not.1 c71] at h7; exact h7)))), (by omega), (by first | omega | (simp; omega)), rfl⟩ rfl
   · refine WL.opG rfl rfl rfl (d_move rfl (WL.opG rfl rfl rfl (d_idxStrN 0 y9 rfl rfl rfl (by have h8 := g67; omega) (WL.opG rfl rfl rfl (d_cmp _ rfl rfl rfl (oo (d_pick rfl rfl (dc ?_))))))))
     refine W.ite rfl (fun c67 => ?_) (fun c67 => ?_)
     · refine W.exit (X.then_exit (X.block_exit (X.then_code (W.region (mv rfl (oo (d_add rfl rfl (by omega) (by omega) (ag rfl (WL.done ?_)))))))))
       exact X.nx [8, 7, 6, 5, 4, 3, 2, 0] (s.size + 1 - (i + 1)) (by omega) ⟨i + 1, i + 1, ln + 1, qs, qa, qc, rfl, H4, (by omega), (by first | exact hsc.on (by omega) (by simpa using c61) | exact hsc.cutR (by omega) hbt (fun o h8 => h8.skip (yes_skip2 (by first | exact .inl g67 | exact .inr c67))) | (rw [rds_app]; exact hsc.cutR (by omega) hbt (fun o h8 => h8.add hns (by have h7 := hr1; rw [Classical.not_not.1 c71] at h7; exact h7)))), (by omega), (by first | omega | (simp; omega)), rfl⟩ rfl
     · refine sc (W.seq ?_)
       have hns : ¬ skipB (s.extract f i) = true := no_skip2 (by first | exact g67 | simpa using g67) (by first | exact c67 | simpa using c67)
       refine W.region (mv rfl (oo (d_call ok8 rfl (Ret.calls (refRead_any _ w2  (by omega)) fun _ w3 p1 => ?_))))
       obtain ⟨ra2_1, rc2_1, rd_1, re_1, rfl, u1, hr1, hb1⟩ := p1
       have H5 : UpG _ _ _ [[_], [_], [_]] := (H4.new' u1).re rfl
       refine mv rfl (oo (d_extract rfl rfl (oo (d_extract rfl rfl (oo (d_alloc sz25 fun w4 u2 => ?_))))))
       have H6 : UpG _ _ _ [[_], [_], [_], [_]] := H5.new' u2
       refine WL.op0 (d_storeAB (us := [_, _]) (cs' := #[_, _]) sz25 rfl rfl rfl rfl (H6.blk 3 rfl) rfl rfl fun w5 u3 => ?_)
       have H7 : UpG _ _ _ [[_], [_], [_], [_]] := H6.on 3 rfl u3
       refine ag rfl (dc (W.pick [11, 10, 42, 41, 40, 6, 7, 8, 5, 4, 3, 2, 0] (Γ' := [(11, _), (10, _), (42, _), (41, _), (40, _), (6, _), (7, _), (8, _), (5, _), (4, _), (3, _), (2, _), (0, _)]) rfl (W.seq (W.seq (W.region (mv rfl (oo (d_cmp _ rfl rfl rfl (dc ?_)))))))))
       refine W.ite rfl (fun c71 => ?_) (fun c71 => ?_)
       · refine sr (mv rfl (mv rfl (ag rfl (ag rfl (ag rfl (dc (W.ret (X.then_ret (X.block_ret (X.then_ret (X.then_ret (X.block_ret (X.then_ret (X.ret3 rfl rfl rfl rfl ?_))))))))))))))
         have H8 : UpG _ _ _ [[_], [_], [_], [_], [_]] := H7.new' (Upd.nilRowT w5 tyRawP 25)
         have H9 : UpG _ _ _ [[_], [_], [_], [_], [_], [_]] := H8.new' (Upd.manyNil inRaw.row w5)
         exact ⟨none, [], 0, ((ln : Nat) : Int) + 1, re_1, (by rfl), (Upd.sel H9 (l := [4, 5]) rfl rfl), (by have h8 := hsc.bad (by omega) hbt hns hr1 c71; exact h8)⟩
       · refine sc (W.region (mv rfl (oo (d_loadAB [_, _] y25 rfl sz25 rfl (H7.blk 3 rfl) rfl rfl (oo (t_buildSlice (T := tyRawP) (xs := ([⟨ra2_1, rc2_1, ⟨rd_1.nums, rd_1.text⟩⟩] : List RawP)) (cs := #[.slice ra2_1 rd_1.nums.length rc2_1, .string rd_1.text]) rfl y33 sz25 rfl rfl rfl rfl (by kernel_rfl) rfl rfl fun w6 u4 => ?_))))))
         have H10 : UpG _ _ _ [[_], [_], [_], [_], [_]] := H7.new' u4
         refine oo (t_append (T := tyRawP) (xs := qs) (ys := ([⟨ra2_1, rc2_1, ⟨rd_1.nums, rd_1.text⟩⟩] : List RawP)) rfl y33 sz25 rfl rfl rfl (H10.ownT 1 rfl) (H10.rdT 4 rfl) (by simp; omega) (by simp; omega) fun a1 c1 w7 u5 => ?_)
         have H11 : UpG _ _ _ [[_], [_], [_], [_], []] := (H10.on 1 rfl u5).drop 4
         have H12 : UpG _ _ _ [[_], [_], [], [_], []] := (UpG.absorb (f := inRaw.row) (⟨ra2_1, rc2_1, ⟨rd_1.nums, rd_1.text⟩⟩ : RawP) H11 0 2 rfl rfl rfl).re rfl
         refine ag rfl (WL.done (X.block_normal (X.then_code (W.region (mv rfl (oo (d_add rfl rfl (by omega) (by omega) (ag rfl (WL.done ?_)))))))))
         exact X.nx [8, 7, 6, 5, 4, 3, 2, 0] (s.size + 1 - (i + 1)) (by omega) ⟨i + 1, i + 1, ln + 1, qs ++ ([⟨ra2_1, rc2_1, ⟨rd_1.nums, rd_1.text⟩⟩] : List RawP), a1, c1, rfl, (H12.pm [0, 1] rfl rfl), (by omega), (by first | exact hsc.on (by omega) (by simpa using c61) | exact hsc.cutR (by omega) hbt (fun o h8 => h8.skip (yes_skip2 (by first | exact .inl g67 | exact .inr c67))) | (rw [rds_app]; exact hsc.cutR (by omega) hbt (fun o h8 => h8.add hns (by have h7 := hr1; rw [Classical.not_not.1 c71] at h7; exact h7)))), (by omega), (by first | omega | (simp; omega)), rfl⟩ rfl
 · refine W.exit (X.then_exit (X.then_exit (X.block_exit (X.then_code (W.seq (W.region (mv rfl (ag rfl (ag rfl (ag rfl (dc (W.ret (X.ret3 rfl rfl rfl rfl ?_)))))))))))))
   exact ⟨qa, qs, qc, 0, 0, rfl, (Upd.sel H3 (l := [1, 0]) rfl rfl), (hsc.fin (by omega))⟩
end Go.Proofs.YtnjjjmpdikpjaabDoor


/- The walks of functions, printed by wip/tools/gw.py. -/
namespace Go.Proofs.YtnjjjmpdikpjaabDoor
open Go Go.Sx
set_option linter.unusedVariables false
set_option linter.unusedSimpArgs false
set_option maxRecDepth 20000 in
theorem consoleScripts_any (tx : ByteArray) (la : Option Addr) (l : List RawP) (lc : Nat) (w : World) (rl : RdT tyRawP w (.slice la l.length lc) l) (dl : inRaw.Rd w l) (lw : Laid w) (hcap : ∀ p, p ∈ l → p.d.nums.length ≤ p.c) (hokn : ∀ p, p ∈ l → okL p.d.nums) :
   Calls Tryd.prog 5 #[.string tx, .slice la l.length lc] w (Ret fun v w' => v = .bool true ∧ Upd w [] w' []) := by
 have hfo := fewL_ok hcap hokn
 have hfl := fewL_len l
 have hcm := cutAll_mem 10 (tx.extract 0 (min ((tx.size : Nat) : Int) 300).toNat)
 have hqz : (tx.extract 0 (min ((tx.size : Nat) : Int) 300).toNat).size ≤ 300 := by rw [ByteArray.size_extract]; omega
 have le_rl := rl.le
 refine calls_of_W (args := [.string tx, .slice la l.length lc]) Tryd.func5 rfl rfl rfl ?_
 have H0 : UpG w [] w [] := UpG.nil w
 show W _ _ _ _ [(0, _), (1, _)] w
 refine sr (ag rfl (dc (W.seq (W.seq (W.region (oo (d_call ok6 rfl (Ret.calls (awake_any  w  (lw.at H0)) fun _ w1 p1 => ?_))))))))
 obtain ⟨rfl, u1⟩ := p1
 have H1 : UpG _ _ _ [] := H0.call u1
 refine oo (d_notB rfl (dc (W.iff rfl (sc (W.seq (W.regionD mixed (by kernel_rfl) fun hok1 w2 k1 => ?_))))))
 have H2 : UpG _ _ _ [] := H1.kept k1
 refine tm hok1 0 rfl rfl (tm hok1 1 rfl rfl (tq hok1 2 rfl rfl (fun _ => d_lenStr y9 rfl ⟨rfl, rfl⟩) (tq hok1 3 rfl rfl (fun _ => d_min rfl rfl ⟨rfl, rfl⟩) (tq hok1 4 rfl rfl (fun _ => d_substrN 0 (min ((tx.size : Nat) : Int) 300) 0 ((min ((tx.size : Nat) : Int) 300).toNat) y9 rfl rfl rfl (.inl ⟨rfl, rfl⟩) (.inr ⟨_, rfl⟩) (by omega) (by omega) ⟨by omega, by omega, by omega⟩ ⟨rfl, rfl⟩) (tm hok1 5 rfl rfl (wo hok1 6 (lo [_, _, _, _, _] rfl rfl (d_call ok10 rfl (Ret.calls (few_any la l lc w2 (rl.at H2) (dl.at H2) hcap) fun _ w3 p2 => ?_)))))))))
 obtain ⟨a2_1, c2_1, rfl, u2⟩ := p2
 have H3 : UpG _ _ _ [[_]] := (H2.new' u2).re rfl
 refine ⟨⟨trivial, trivial, trivial, trivial, trivial, trivial⟩, (tq hok1 7 rfl rfl (fun _ => d_assign rfl ⟨rfl, rfl⟩) (tq hok1 8 rfl rfl (fun _ => d_assign rfl ⟨rfl, rfl⟩) (WD.done hok1 rfl (X.then_code (W.seq (W.region (mv rfl (oo (d_call ok14 rfl (Ret.calls (script_any _ w3  (lw.at H3) (by omega) (fun x hx => by have := hcm x hx; omega)) fun _ w4 p3 => ?_))))))))))⟩
 obtain ⟨a2_2, qs_1, c2_2, sa_1, se_1, rfl, u3, hs91⟩ := p3
 have H4 : UpG _ _ _ [[_], [_], [_]] := (H3.new' u3).re rfl
 refine mv rfl (oo (d_extract rfl rfl (oo (d_extract rfl rfl (oo (d_extract rfl rfl (ag rfl (ag rfl (ag rfl (dc (W.seq (W.region (mv rfl (oo (d_call ok15 rfl (Ret.calls (refScript_any _ w4  (by omega)) fun _ w5 p4 => ?_))))))))))))))))
 obtain ⟨a2_3, qs_2, c2_3, sa_2, se_2, rfl, u4, hs92⟩ := p4
 have H5 : UpG _ _ _ [[_], [_], [_], [_], [_]] := (H4.new' u4).re rfl
 refine mv rfl (oo (d_extract rfl rfl (oo (d_extract rfl rfl (oo (d_extract rfl rfl (ag rfl (ag rfl (ag rfl (dc (W.seq (W.seq (W.region (mv rfl (mv rfl (oo (d_call ok16 rfl (Ret.calls (rawsSame_any a2_2 qs_1 _ a2_3 qs_2 _ w5 (H5.rdT 1 rfl) (H5.rdT 3 rfl) (Inn.own (H5.hpOf 2 rfl)) (Inn.own (H5.hpOf 4 rfl)) ) fun _ w6 p5 => ?_))))))))))))))))))
 obtain ⟨rfl, u5⟩ := p5
 have H6 : UpG _ _ _ [[_], [_], [_], [_], [_]] := H5.call u5
 refine oo (d_notB rfl (mv rfl ?_))
 refine WL.partB 42 rfl (fun g85 => ?_) (fun g85 => ?_)
 · rw [(hs91.det hs92).1] at g85; simp at g85
 · refine WL.opG rfl rfl rfl (d_move rfl (WL.opG rfl rfl rfl (d_move rfl (WL.opG rfl rfl rfl (d_cmp _ rfl rfl rfl (oo (d_pick rfl rfl (mv rfl ?_))))))))
   refine WL.part 47 rfl (fun g85x => ?_) (fun g85x => ?_)
   · exact absurd (hs91.det hs92).2.1 g85x
   · refine WL.opG rfl rfl rfl (d_move rfl (WL.opG rfl rfl rfl (d_move rfl (WL.opG rfl rfl rfl (d_cmp _ rfl rfl rfl (oo (d_pick rfl rfl (dc (W.pick [51, 1, 4] (Γ' := [(51, _), (1, _), (4, _)]) rfl ?_)))))))))
     refine W.ite rfl (fun c85 => ?_) (fun c85 => ?_)
     · exfalso; exact absurd (hs91.det hs92).2.2 c85
     · refine sc (W.seq (W.region (mv rfl (oo (d_call ok13 rfl (Ret.calls (text_any a2_1 (fewL l) _ w6 (H6.rdT 0 rfl) (fewL_rd (dl.at H6)) (lw.at H6) hfo hfl) fun _ w7 p6 => ?_))))))
       obtain ⟨t_1, ta_1, te_1, rfl, u6, ht1, hts1⟩ := p6
       have H7 : UpG _ _ _ [[_], [_], [_], [_], [_]] := H6.call u6
       refine mv rfl (oo (d_extract rfl rfl (oo (d_extract rfl rfl (oo (d_extract rfl rfl (ag rfl (ag rfl (ag rfl (dc (W.seq (W.seq (W.region (mv rfl (oo (d_cmp _ rfl rfl rfl (dc ?_)))))))))))))))))
       refine W.ite rfl (fun c89 => ?_) (fun c89 => ?_)
       · refine sr (ag rfl (dc (W.ret (X.then_ret (X.ret1 rfl rfl ?_)))))
         exact ⟨rfl, H7.noneL⟩
       · refine sc (W.seq ?_)
         have ht9 := text_good ht1 (by simpa using c89)
         obtain ⟨ht8, ht7⟩ := ht9
         have hmm : ∀ d, d ∈ (rdsOf (fewL l)) → okL d.nums ∧ (lineC d).1.size ≤ 800 := fun d hd => by obtain ⟨p, hp, rfl⟩ := List.mem_map.1 hd; exact ⟨(hfo p hp).ok, (hfo p hp).size⟩
         have h4 : (⟨#[35, 32, 10, 10]⟩ : ByteArray).size = 4 := rfl
         refine W.region (mv rfl (oo (d_concat rfl rfl (by omega) (oo (d_call ok14 rfl (Ret.calls (script_any _ w7  (lw.at H7) (by rw [ByteArray.size_append]; omega) (by rw [ht8]; exact script_sizes (fun d hd => (hmm d hd).2))) fun _ w8 p7 => ?_))))))
         obtain ⟨a2_4, qs_3, c2_4, sa_3, se_3, rfl, u7, hs93⟩ := p7
         have H8 : UpG _ _ _ [[_], [_], [_], [_], [_], [_], [_]] := (H7.new' u7).re rfl
         refine mv rfl (oo (d_extract rfl rfl (oo (d_extract rfl rfl (oo (d_extract rfl rfl (ag rfl (ag rfl (ag rfl (dc (W.seq ?_)))))))))))
         rw [ht8] at hs93
         have hw9 := scr_written (fun d hd => (hmm d hd).1) ht7 hs93
         refine W.region (mv rfl (oo (d_cmp _ rfl rfl rfl (mv rfl ?_))))
         refine WL.part 69 rfl (fun g93 => ?_) (fun g93 => ?_)
         · refine WL.opG rfl rfl rfl (d_move rfl (WL.opG rfl rfl rfl (d_move rfl (WL.opG rfl rfl rfl (d_call ok16 rfl (Ret.calls (rawsSame_any a2_4 qs_3 _ a2_1 (fewL l) _ w8 (H8.rdT 5 rfl) (H8.rdT 0 rfl) (Inn.own (H8.hpOf 6 rfl)) (fewL_rd (dl.at H8)) ) fun _ w9 p8 => ?_))))))
           obtain ⟨rfl, u8⟩ := p8
           have H9 : UpG _ _ _ [[_], [_], [_], [_], [_], [_], [_]] := H8.call u8
           refine oo (d_pick rfl rfl (ag rfl (dc (W.pick [4] (Γ' := [(4, _)]) rfl (W.ret (X.ret1 rfl rfl ?_))))))
           exact ⟨(by rw [decide_eq_true hw9.2]), H9.noneL⟩
         · exact absurd hw9.1 g93
end Go.Proofs.YtnjjjmpdikpjaabDoor

