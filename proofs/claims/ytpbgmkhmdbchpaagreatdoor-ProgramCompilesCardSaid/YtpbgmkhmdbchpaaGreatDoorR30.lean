/- Proved here: ProgramCompiles return true at every input that their statements speak of, and leave what was handed in as it read; conditions: none beyond those of the statements. -/
import Derived.Test.YtpbgmkhmdbchpaaGreatDoorWProgramCompilesB6
import Derived.Test.YtpbgmkhmdbchpaaGreatDoorTie
import Derived.Test.YtpbgmkhmdbchpaaGreatDoorCards
import Derived.SevenTiedAt
set_option linter.unusedVariables false
set_option linter.unusedSimpArgs false
set_option linter.unusedSectionVars false
set_option maxRecDepth 20000
namespace Go.Proofs.YtpbgmkhmdbchpaaGreatDoor
open Go Go.Sx Go.ChangeShapes Go.WideShapes Go.ChangeAt Go.RowKit
namespace programCompiles
set_option maxRecDepth 100000 in
theorem lifted (os:Os) (started:os.Started) (H:Type) (enc:TypeId×Value→H):
    ReturnsInHanded {} Tryz.checked os 3 .any (fun w args=>(Rows.programCompilesSpec.pre enc Tryz.prog Tryz.f3 [] false w args∧laidMetH Tryz.prog Fk w)∧sizedMet enc Tryz.prog Tryz.f3 (OpenSpec.ofChange Rows.programCompilesSpec) false w args)
      (Rows.programCompilesSpec.post enc Tryz.prog Tryz.f3 false true false false):=by
  refine FJ (C:=Tryz.checked) (X:=fun w _=>laidMetH Tryz.prog Fk w) (fun _ _ _ hh h=>h.of_heap hh) own started iX Tryz.func3
    (ChangeSpec.witness_shaped (enc:=enc) (C:=Tryz.checked) (os:=os) (X:=fun w _=>laidMetH Tryz.prog Fk w) false (World.doorLaid Tryz.prog 400 os) #[.string ByteArray.empty,.int .i64 0] 8 rfl (World.shaped_of_RefB iX iX) iX iX iX (Q5 os _)) ?_
  intro W base args ds gs before VX hW _ hL hsh
  have Iz:∀(j:Nat) t v,Tryz.f3.params[j]?=some t→args[j]?=some v→Value.okWide Tryz.prog W .any base t v:=VX
  have hW':=hW
  obtain ⟨p,q,hA0,hV,rfl,hfz,rQ⟩:=hW
  have hA:DataW.TrodAll enc Tryz.prog W 0 (fun _=>true) true Tryz.f3.params.toList args.toList ds p:=hA0
  rw [Tryz.params3] at hA Iz
  obtain ⟨v0,vs0,d0,ds0,p0,q0,akc,rfl,rfl,h0,r0⟩:=trodAll_cons hA
  obtain ⟨v1,vs1,d1,ds1,p1,q1,rfl,rfl,rfl,h1,r1⟩:=trodAll_cons r0
  obtain ⟨rfl,rfl,rfl⟩:=trodAll_nil r1
  obtain rfl:args= #[v0,v1]:=by cases args;simp_all
  obtain ⟨rfl,rfl⟩:=trodVars_none hV
  have hT:=HD hL
  have lw:=T1 hsh
  obtain ⟨a0,rfl,rfl,rfl,y0⟩:=Go.ChangeMaps.open_string Tryz.underlying9 (Iz 0 9 v0 rfl rfl) h0
  obtain ⟨a1,rfl,rfl,rfl,y1⟩:=open_int Tryz.underlying3 (Iz 1 3 v1 rfl rfl) h1
  clear hA0 VX
  refine (zT a0 a1 W hT lw).mono fun e W' ⟨v,he,hv,hu⟩=>?_
  subst he;subst hv
  have bel:=R5 hu
  exact ⟨_,rfl,_,_,_,[],_,[],hW',trodAll_mk1 (shut_bool Tryz.underlying4 _),trodAll_cons_mk (Go.ChangeMaps.shut_string Tryz.underlying9 y0) (trodAll_cons_mk (shut_int Tryz.underlying3 y1) trodAll_mk0),rfl,bel.frame _,fun h=>by cases h⟩
theorem holds:Rows.ProgramCompilesSaid:=
  OpenClaim.holds_of_wide 3 Tryz.f3 rfl rfl rfl rfl rfl rfl rfl ⟨rfl,rfl,rfl,rfl,rfl⟩ rfl rfl rfl rfl rfl iX Tryz.func3 iX
    (of_decide_eq_true iX) (by unfold Func.isWrapper;first|(rw [if_pos (by decide+kernel)];kernel_rfl)|(rw [if_neg (by decide+kernel)];exact ⟨rfl,rfl⟩))
    (fun os started H enc _=>lifted os started H enc)
end programCompiles
theorem programCompiles_card_holds:Rows.ProgramCompilesCardSaid:=
  Claim7.holds_tied_plain_at .later [] [.data] true (true, "1f42cf79b17d3087fb53cef0632e8765a7447dfe06b6cbb8c8ba2dc2905c1601") false
    programCompiles.holds (fun _ h=>by cases h) iX (fun _ h=>by cases h) programCompiles_row_tie rfl ⟨rfl,rfl⟩ iX rfl
    (fun f fn hf hfn=>by
      obtain rfl:f=3:=Option.some.inj ((show Tryz.prog.funcNamed "tatting/tattinglaw15.ProgramCompiles" =some 3 by kernel_rfl).symm.trans hf)|>.symm
      obtain rfl:fn=Tryz.f3:=(Option.some.inj (Tryz.func3.symm.trans hfn)).symm
      exact ⟨by kernel_rfl,fun j t ht=>by
        rw [Tryz.params3] at ht
        have hm:t∈[9,3]:=by simpa using Array.mem_of_getElem? ht
        have jS:([9,3].all fun u=> !Tryz.prog.wantsStandIn u)=true:=by kernel_rfl
        exact (show Tryz.prog.wantsStandIn t=false by simpa using List.all_eq_true.1 jS t hm)⟩)
    iX
end Go.Proofs.YtpbgmkhmdbchpaaGreatDoor
