/- The state of memory for walks: what a piece of code owns, what it keeps. -/
import Derived.WalkKit
import Derived.Maps.AppendAt
import Derived.Deep.Quiet
import Derived.Deep.LoopGhost
import Derived.KernelRfl
import Derived.Laws.StructEq
import Derived.Lib.SliceRun
import Derived.Sort.Row
import Derived.Sort.Grow
import Derived.Lib.ConvBytes
import Derived.MapKept
import Derived.WideKeyRuns
import Derived.Carry
import Derived.Laws.BytesArg
import Derived.ChangeKeysEq
import Derived.Lib.ItoaMem
import Derived.Lib.ItoaLen
import Derived.Lib.AtoiAll
import Derived.Lib.AppendStr
import Derived.Lib.AppendIntMem
import Derived.Lib.AtoiErrMem
import Derived.Lib.SplitLaws
import Derived.Lib.IndexLaws
set_option linter.unusedVariables false
set_option linter.unusedSimpArgs false
set_option linter.unusedSectionVars false
set_option maxRecDepth 20000
namespace Go.Sx
theorem om {p:Prop} (h:p:=by first|assumption|omega|simp):p:=h
theorem oa {p:Prop} (h:p:=by first|assumption|omega):p:=h
theorem oz {p:Prop} (h:p:=by omega):p:=h
abbrev aP:=Option Addr
structure cM (S:List Nat) (w w':World):Prop where
  os:w'.os=w.os
  tape:w'.tape=w.tape
  output:w'.output=w.output
  size:w.heap.size≤w'.heap.size
  block:∀k,k<w.heap.size→k∉S→w'.heap[k]?=w.heap[k]?
theorem cM.refl (S:List Nat) (w:World):cM S w w:=⟨rfl,rfl,rfl,Nat.le_refl _,fun _ _ _=>rfl⟩
theorem cM.trans {S:List Nat} {a b c:World} (h:cM S a b) (k:cM S b c):cM S a c:=
  ⟨k.os.trans h.os,k.tape.trans h.tape,k.output.trans h.output,Nat.le_trans h.size k.size,
    fun i hi hs=>(k.block i (Nat.lt_of_lt_of_le hi h.size) hs).trans (h.block i hi hs)⟩
theorem cM.step {S T:List Nat} {a b c:World} (h:cM S a b) (k:cM T b c) (hT:∀g,g∈T→g∈S∨a.heap.size≤g):cM S a c:=
  ⟨k.os.trans h.os,k.tape.trans h.tape,k.output.trans h.output,Nat.le_trans h.size k.size,
    fun i hi hs=>(k.block i (Nat.lt_of_lt_of_le hi h.size) (fun hm=>by rcases hT i hm with h1|h1;exact hs h1;omega)).trans (h.block i hi hs)⟩
theorem cM.mono {S T:List Nat} {a b:World} (h:cM S a b) (hT:∀g,g∈S→g∈T):cM T a b:=
  ⟨h.os,h.tape,h.output,h.size,fun i hi hs=>h.block i hi (fun hm=>hs (hT i hm))⟩
theorem cM.nil {S:List Nat} {a b:World} (h:cM [] a b):cM S a b:=h.mono (by simp)
theorem cM.below {w w':World} (h:cM [] w w'):RowKit.Below w.heap.size w w':=⟨h.os,h.tape,h.output,h.size,fun k hk=>h.block k hk (by simp)⟩
theorem cM.LW (w:World) (n:Nat):cM [] w { w with drawn:=n } :=⟨rfl,rfl,rfl,Nat.le_refl _,fun _ _ _=>rfl⟩
theorem cM.cell {S:List Nat} {w w':World} (h:cM S w w') {a:Addr} {v:Value} (hc:w.cell? a=some v) (hS:a.block∉S):w'.cell? a=some v:=by
  rw [←hc]
  exact World.cell?_of_block (w:=w) (h.block _ (World.block_lt_of_cell? w a hc) hS)
theorem cM.obj {S:List Nat} {w w':World} (h:cM S w w') {g:Nat} {o:Obj} (hc:w.heap[g]?=some o) (hS:g∉S):w'.heap[g]?=some o:=by
  rw [←hc]
  exact h.block _ (Array.getElem?_eq_some_iff.1 hc).1 hS
theorem j1 {w:World} {g:Nat} {o:Obj} (h:w.heap[g]?=some o):g<w.heap.size:=(Array.getElem?_eq_some_iff.1 h).1
structure Chunk where
  bs:List Nat
  P:World→Prop
  loc:∀w w',(∀g,g∈bs→w'.heap[g]?=w.heap[g]?)→P w→P w'
  lt:∀w g,g∈bs→P w→g<w.heap.size
  nd:∀w,P w→bs.Nodup
def Chunk.holds (w:World) (c:Chunk):Prop:=c.P w
def dn (L:List Chunk):List Nat:=L.flatMap Chunk.bs
theorem gw {L:List Chunk} {g:Nat} :g∈dn L↔∃c,c∈L∧g∈c.bs:=by simp [dn]
theorem ee (L M:List Chunk):dn (L++M)=dn L++dn M:=by simp [dn]
theorem oN:∀ {M L:List Chunk},M.Sublist L→(dn M).Sublist (dn L)
  | _,_,.slnil=> .slnil
  | _,_,.cons a h=>(oN h).trans (List.sublist_append_right _ _)
  | _,_,.cons_cons a h=>(oN h).append_left a.bs
structure Hp (w:World) (L:List Chunk):Prop where
  holds:∀c,c∈L→c.holds w
  nodup:(dn L).Nodup
theorem Hp.nil (w:World):Hp w []:=⟨by simp,by simp [dn]⟩
theorem Hp.lt {w:World} {L:List Chunk} (h:Hp w L) {g:Nat} (hg:g∈dn L):g<w.heap.size:=by
  obtain ⟨c,hc,e⟩:=gw.1 hg
  exact c.lt w g e (h.holds c hc)
theorem Hp.perm {w:World} {L M:List Chunk} (h:Hp w L) (p:L.Perm M):Hp w M:=
  ⟨fun c hc=>h.holds c (p.mem_iff.2 hc),(List.Perm.nodup_iff (p.flatMap_right _)).1 h.nodup⟩
theorem Hp.left {w:World} {L M:List Chunk} (h:Hp w (L++M)):Hp w L:=
  ⟨fun c hc=>h.holds c (List.mem_append_left _ hc),by have:=h.nodup;rw [ee] at this;exact (List.nodup_append.1 this).1⟩
theorem Hp.right {w:World} {L M:List Chunk} (h:Hp w (L++M)):Hp w M:=
  ⟨fun c hc=>h.holds c (List.mem_append_right _ hc),by have:=h.nodup;rw [ee] at this;exact (List.nodup_append.1 this).2.1⟩
theorem Hp.apart {w:World} {L M:List Chunk} (h:Hp w (L++M)) {g:Nat} (h1:g∈dn L) (h2:g∈dn M):False:=by
  have:=h.nodup;rw [ee] at this;exact (List.nodup_append.1 this).2.2 g h1 g h2 rfl
theorem Hp.keep {w w':World} {L:List Chunk} {S:List Nat} (h:Hp w L) (k:cM S w w') (hS:∀g,g∈dn L→g∉S):Hp w' L:=by
  refine ⟨fun c hc=>c.loc w w' (fun g hg=>?_) (h.holds c hc),h.nodup⟩
  exact k.block g (c.lt w g hg (h.holds c hc)) (hS g (gw.2 ⟨c,hc,hg⟩))
theorem Hp.append {w:World} {L M:List Chunk} (h:Hp w L) (k:Hp w M) (hd:∀g,g∈dn L→g∉dn M):Hp w (L++M):=by
  refine ⟨fun c hc=>?_,?_⟩
  · rcases List.mem_append.1 hc with h1|h1
    · exact h.holds c h1
    · exact k.holds c h1
  · rw [ee]
    exact List.nodup_append.2 ⟨h.nodup,k.nodup,fun a ha b hb e=>hd a ha (e▸hb)⟩
structure ax (w:World) (L:List Chunk) (w':World) (L':List Chunk):Prop where
  hp:Hp w' L'
  keep:cM (dn L) w w'
  fresh:∀g,g∈dn L'→g∈dn L∨w.heap.size≤g
theorem ax.refl {w:World} {L:List Chunk} (h:Hp w L):ax w L w L:=⟨h,cM.refl _ _,fun _ h=> .inl h⟩
theorem ax.nil (w:World):ax w [] w []:=ax.refl (Hp.nil w)
theorem ax.size {w w':World} {L L':List Chunk} (h:ax w L w' L'):w.heap.size≤w'.heap.size:=h.keep.size
theorem ax.drop {w w':World} {L L' M:List Chunk} (h:ax w L w' L') (hs:M.Sublist L'):ax w L w' M:=
  ⟨⟨fun c hc=>h.hp.holds c (hs.subset hc),(oN hs).nodup h.hp.nodup⟩,h.keep,fun g hg=>h.fresh g ((oN hs).subset hg)⟩
theorem ax.af {w w':World} {L L':List Chunk} (h:ax w L w' L'):ax w L w' []:=h.drop (List.nil_sublist _)
theorem ax.perm {w w':World} {L L' M:List Chunk} (h:ax w L w' L') (p:L'.Perm M):ax w L w' M:=
  ⟨h.hp.perm p,h.keep,fun g hg=>h.fresh g ((p.flatMap_right _).mem_iff.2 hg)⟩
theorem ax.kept {w w1 w2:World} {L L':List Chunk} (h:ax w L w1 L') (k:cM [] w1 w2):ax w L w2 L':=
  ⟨h.hp.keep k (by simp),h.keep.step k (by simp),h.fresh⟩
theorem ax.frame {w w1 w2:World} {L A B M:List Chunk} (h:ax w L w1 (A++M)) (k:ax w1 A w2 B):ax w L w2 (B++M):=by
  have hM:Hp w2 M:=h.hp.right.keep k.keep (fun g h2 h1=>h.hp.apart h1 h2)
  refine ⟨k.hp.append hM ?_,?_,?_⟩
  · intro g hb hm
    rcases k.fresh g hb with h1|h1
    · exact h.hp.apart h1 hm
    · have:=h.hp.right.lt hm;omega
  · refine h.keep.step k.keep ?_
    intro g hg
    exact h.fresh g (by rw [ee];exact List.mem_append_left _ hg)
  · intro g hg
    rw [ee] at hg
    rcases List.mem_append.1 hg with h1|h1
    · rcases k.fresh g h1 with h2|h2
      · exact h.fresh g (by rw [ee];exact List.mem_append_left _ h2)
      · exact .inr (Nat.le_trans h.size h2)
    · exact h.fresh g (by rw [ee];exact List.mem_append_right _ h1)
def av (w:World) (L:List Chunk) (w':World) (G:List (List Chunk)):Prop:=ax w L w' G.flatten
theorem gZ {α:Type} :∀(G:List (List α)) (i:Nat) (A:List α),G[i]?=some A→G.flatten.Perm (A++(G.set i []).flatten)
  | [],i,A,h=>by simp at h
  | B::G,0,A,h=>by simp at h;subst h;simp
  | B::G,i+1,A,h=>by
    simp only [List.flatten_cons,List.set_cons_succ]
    have ih:=gZ G i A (by simpa using h)
    exact (ih.append_left B).trans (by rw [←List.append_assoc,←List.append_assoc];exact (List.perm_append_comm).append_right _)
theorem lM {α:Type} :∀(G:List (List α)) (i:Nat) (A B:List α),G[i]?=some A→(B++(G.set i []).flatten).Perm (G.set i B).flatten
  | [],i,A,B,h=>by simp at h
  | C::G,0,A,B,h=>by simp
  | C::G,i+1,A,B,h=>by
    simp only [List.flatten_cons,List.set_cons_succ]
    have ih:=lM G i A B (by simpa using h)
    refine List.Perm.trans ?_ (ih.append_left C)
    rw [←List.append_assoc,←List.append_assoc];exact (List.perm_append_comm).append_right _
theorem av.nil (w:World):av w [] w []:=ax.nil w
theorem av.refl {w:World} {L:List Chunk} (h:Hp w L):av w L w [L]:=by unfold av;simpa using ax.refl h
theorem av.kept {w w1 w2:World} {L:List Chunk} {G:List (List Chunk)} (h:av w L w1 G) (k:cM [] w1 w2):av w L w2 G:=ax.kept h k
theorem av.on {w w1 w2:World} {L:List Chunk} {G:List (List Chunk)} (h:av w L w1 G) (i:Nat) {A B:List Chunk} (hi:G[i]?=some A) (k:ax w1 A w2 B):av w L w2 (G.set i B):=
  ax.perm (ax.frame (ax.perm h (gZ G i A hi)) k) (lM G i A B hi)
theorem av.new {w w1 w2:World} {L:List Chunk} {G:List (List Chunk)} (h:av w L w1 G) {B:List Chunk} (k:ax w1 [] w2 B):av w L w2 (B::G):=by
  have:=ax.frame (A:=[]) (B:=B) (M:=G.flatten) h k
  simpa [av] using this
theorem av.iZ {w w1 w2:World} {L:List Chunk} {G:List (List Chunk)} (h:av w L w1 G) {B:List Chunk} (k:ax w1 [] w2 B):av w L w2 (G++[B]):=by
  refine ax.perm (h.new k) ?_
  simp only [List.flatten_cons,List.flatten_append,List.flatten_nil,List.append_nil]
  exact List.perm_append_comm
theorem av.call {w w1 w2:World} {L:List Chunk} {G:List (List Chunk)} (h:av w L w1 G) (k:ax w1 [] w2 []):av w L w2 G:=by
  have:=ax.frame (A:=[]) (B:=[]) (M:=G.flatten) h k
  simpa [av] using this
theorem av.af {w w':World} {L:List Chunk} {G:List (List Chunk)} (h:av w L w' G):ax w L w' []:=ax.af h
theorem av.one {w w':World} {L A:List Chunk} {G:List (List Chunk)} (h:av w L w' G) (i:Nat) (hi:G[i]?=some A):ax w L w' A:=
  ax.drop h (List.sublist_flatten_of_mem (List.mem_of_getElem? hi))
theorem av.of {w w':World} {L M:List Chunk} {G:List (List Chunk)} (h:ax w L w' M) (e:G.flatten=M):av w L w' G:=by unfold av;rw [e];exact h
theorem av.keep {w w':World} {L:List Chunk} {G:List (List Chunk)} (h:av w L w' G):cM (dn L) w w':=ax.keep h
theorem av.nv {w w':World} {G:List (List Chunk)} (h:av w [] w' G):cM [] w w':=ax.keep h
theorem av.bU {w w':World} {L A:List Chunk} {G:List (List Chunk)} (h:av w L w' G) (i:Nat) (hi:G[i]?=some A):Hp w' A:=
  (Hp.perm (ax.hp h) (gZ G i A hi)).left
theorem av.drop {w w':World} {L:List Chunk} {G:List (List Chunk)} (h:av w L w' G) (i:Nat):av w L w' (G.set i []):=by
  cases hi:G[i]? with
  | none=>rw [List.set_eq_of_length_le (by simpa using hi)];exact h
  | some A=>exact ax.drop (ax.perm h (gZ G i A hi)) (List.sublist_append_right _ _)
def aQ (g:Nat) (cs:Array Value) (e:TypeId):Chunk:=
  ⟨[g],fun w=>w.heap[g]?=some (.cells cs e (0,0)),fun w w' h k=>(h g (by simp)).trans k,fun w g' hg k=>by simp at hg;subst hg;exact j1 k,fun _ _=>by simp⟩
theorem Jg {v:Value} {e:TypeId} {sz n:Nat} {vs:List Value} (w w':World) (h:∀g,g∈v.ownBlock.toList→w'.heap[g]?=w.heap[g]?) (k:w.ownsRow 0 e sz v n vs):w'.ownsRow 0 e sz v n vs:=by
  refine ⟨k.1,?_⟩
  rcases k.2 with h1|⟨g,cap,cur,rfl,h2,h3,h4⟩
  · exact .inl h1
  · exact .inr ⟨g,cap,cur,rfl,h2,(h g (by simp [Value.ownBlock])).trans h3,h4⟩
theorem SP {v:Value} {e:TypeId} {sz n:Nat} {vs:List Value} (w:World) (g:Nat) (hg:g∈v.ownBlock.toList) (k:w.ownsRow 0 e sz v n vs):g<w.heap.size:=by
  rcases k.2 with ⟨rfl,_⟩|⟨g',cap,cur,rfl,h2,h3,h4⟩
  · simp [Value.ownBlock] at hg
  · simp [Value.ownBlock] at hg;subst hg;exact j1 h3
def row (v:Value) (e:TypeId) (sz n:Nat) (vs:List Value):Chunk:=
  ⟨v.ownBlock.toList,fun w=>w.ownsRow 0 e sz v n vs,Jg,SP,fun _ _=>by cases v.ownBlock<;>simp⟩
theorem Hp.aQ {w:World} {g:Nat} {cs:Array Value} {e:TypeId} {L:List Chunk} (h:Hp w L) (hm:aQ g cs e∈L):w.heap[g]?=some (.cells cs e (0,0)):=h.holds _ hm
theorem mw {w:World} {v:Value} {e:TypeId} {sz n:Nat} {vs:List Value} (h:(row v e sz n vs).holds w):w.ownsRow 0 e sz v n vs:=h
theorem oW {w:World} {v:Value} {e:TypeId} {sz n:Nat} {vs:List Value} (h:w.ownsRow 0 e sz v n vs):(row v e sz n vs).holds w:=h
def many (L:List Chunk):Chunk:=⟨dn L,fun w=>Hp w L,
  fun w w' h k=>⟨fun c hc=>c.loc w w' (fun g hg=>h g (gw.2 ⟨c,hc,hg⟩)) (k.holds c hc),k.nodup⟩,fun w g hg k=>k.lt hg,fun _ k=>k.nodup⟩
theorem eZ (L M:List Chunk):dn (many L::M)=dn (L++M):=by simp [dn,many]
theorem fS {w:World} {L M:List Chunk} :Hp w (many L::M)↔Hp w (L++M):=by
  constructor
  · intro h
    refine ⟨fun c hc=>?_,by rw [←eZ];exact h.nodup⟩
    rcases List.mem_append.1 hc with h1|h1
    · exact (h.holds (many L) (by simp):Hp w L).holds c h1
    · exact h.holds c (by simp [h1])
  · intro h
    refine ⟨fun c hc=>?_,by rw [eZ];exact h.nodup⟩
    rcases List.mem_cons.1 hc with rfl|h1
    · exact h.left
    · exact h.holds c (List.mem_append_right _ h1)
theorem I1 {w:World} {v:Value} {e:TypeId} {sz n:Nat} {vs:List Value} (h:w.ownsRow 0 e sz v n vs):∃a c,v= .slice a n c:=by
  rcases h.2 with ⟨rfl,rfl⟩|⟨g,cap,cur,rfl,_⟩
  · exact ⟨none,0,rfl⟩
  · exact ⟨_,cap,rfl⟩
def Rd (w:World) (v:Value) (sz n:Nat) (vs:List Value):Prop:=
  ∃A cap,v= .slice A n cap∧vs.length=n*sz∧n≤9223372036854775807∧∀j u,vs[j]?=some u→∃ad,A=some ad∧w.cell? (ad.add j)=some u
theorem Kl (ad:Addr) (j:Nat):(ad.add j).block=ad.block:=by unfold Addr.add;split<;>rfl
def Value.Gh:Value→Option Nat
  | .slice (some a) _ _=>some a.block
  | _=>none
theorem Rd.keep {w w':World} {v:Value} {sz n:Nat} {vs:List Value} {S:List Nat} (h:Rd w v sz n vs) (k:cM S w w') (hS:∀g,Value.Gh v=some g→g∉S):Rd w' v sz n vs:=by
  obtain ⟨A,cap,rfl,h1,h2,h3⟩:=h
  refine ⟨A,cap,rfl,h1,h2,fun j u hj=>?_⟩
  obtain ⟨ad,rfl,hc⟩:=h3 j u hj
  exact ⟨ad,rfl,k.cell hc (by rw [Kl];exact hS _ rfl)⟩
theorem Rd.kept {w w':World} {v:Value} {sz n:Nat} {vs:List Value} (h:Rd w v sz n vs) (k:cM [] w w'):Rd w' v sz n vs:=h.keep k (by simp)
theorem Rd.at {w w':World} {v:Value} {sz n:Nat} {vs:List Value} {G:List (List Chunk)} (h:Rd w v sz n vs) (k:av w [] w' G):Rd w' v sz n vs:=h.keep k.keep (by simp [dn])
theorem Rd.len {w:World} {v:Value} {sz n:Nat} {vs:List Value} (h:Rd w v sz n vs):vs.length=n*sz:=by obtain ⟨_,_,_,h,_⟩:=h;exact h
theorem zL {w:World} {b:Nat} {v:Value} {e:TypeId} {sz n:Nat} {vs:List Value} (h:w.ownsRow b e sz v n vs):Rd w v sz n vs:=by
  have h0:=h
  obtain ⟨h1,h2⟩:=h
  rcases h2 with ⟨rfl,rfl⟩|⟨g,cap,cur,rfl,_,h3,h4,h5,h6,h7⟩
  · exact ⟨none,0,rfl,h1,by omega,fun j u hj=>by
      have:j<vs.length:=(List.getElem?_eq_some_iff.1 hj).1
      omega⟩
  · exact ⟨_,cap,rfl,h1,by simp only [maxLen] at h5;omega,fun j u hj=>⟨_,rfl,h0.cells (g:=g) rfl j u hj⟩⟩
theorem av.own {w w':World} {L:List Chunk} {G:List (List Chunk)} {v:Value} {e:TypeId} {sz n:Nat} {vs:List Value} (h:av w L w' G) (i:Nat) (hi:G[i]?=some [row v e sz n vs]):w'.ownsRow 0 e sz v n vs:=
  mw ((h.bU i hi).holds _ (by simp))
theorem av.rd {w w':World} {L:List Chunk} {G:List (List Chunk)} {v:Value} {e:TypeId} {sz n:Nat} {vs:List Value} (h:av w L w' G) (i:Nat) (hi:G[i]?=some [row v e sz n vs]):Rd w' v sz n vs:=
  zL (h.own i hi)
theorem av.aQ {w w':World} {L:List Chunk} {G:List (List Chunk)} {g:Nat} {cs:Array Value} {e:TypeId} (h:av w L w' G) (i:Nat) (hi:G[i]?=some [aQ g cs e]):w'.heap[g]?=some (.cells cs e (0,0)):=
  (h.bU i hi).aQ (by simp)
theorem ax.alloc (w:World) (cs:Array Value) (e:TypeId):ax w [] (w.alloc (.cells cs e)) [Sx.aQ w.heap.size cs e]:=by
  refine ⟨⟨fun c hc=>?_,by simp [dn,Sx.aQ]⟩,⟨rfl,rfl,rfl,by simp,fun k hk _=>RowKit.Below.heap_alloc w _ k hk⟩,fun g hg=>?_⟩
  · simp only [List.mem_singleton] at hc;subst hc
    exact heap_alloc_new w _
  · simp [dn,Sx.aQ] at hg;omega
theorem ax.setCell {w:World} {g:Nat} {cs:Array Value} {e:TypeId} (h:w.heap[g]?=some (.cells cs e (0,0))) (off:Nat) (u:Value):
    ax w [Sx.aQ g cs e] (w.setCell ⟨g,off,none⟩ u) [Sx.aQ g (cs.setIfInBounds off u) e]:=by
  have cF:=j1 h
  refine ⟨⟨fun c hc=>?_,by simp [dn,Sx.aQ]⟩,⟨rfl,rfl,rfl,by simp [World.setCell],fun k hk hs=>?_⟩,fun g' hg=>?_⟩
  · simp only [List.mem_singleton] at hc;subst hc
    show (w.setCell ⟨g,off,none⟩ u).heap[g]?=_
    simp [World.setCell,Array.getElem?_modify,h]
  · exact RowKit.Below.heap_setCell _ _ _ _ (by intro e';subst e';simp [dn,Sx.aQ] at hs)
  · left;simpa [dn,Sx.aQ] using hg
abbrev Uu2 {w:World} {L:List Chunk} {v:World} {q0 q1:Chunk} :Prop:=av w L v [[q0],[q1]]
abbrev Uu2x1 {w:World} {L:List Chunk} {v:World} {q0 q1:Chunk} :Prop:=av w L v [[q0],[q1],[]]
abbrev Uu2x2 {w:World} {L:List Chunk} {v:World} {q0 q1:Chunk} :Prop:=av w L v [[q0],[q1],[],[]]
abbrev Uu3 {w:World} {L:List Chunk} {v:World} {q0 q1 q2:Chunk} :Prop:=av w L v [[q0],[q1],[q2]]
abbrev Uu3x1 {w:World} {L:List Chunk} {v:World} {q0 q1 q2:Chunk} :Prop:=av w L v [[q0],[q1],[q2],[]]
abbrev Uu4 {w:World} {L:List Chunk} {v:World} {q0 q1 q2 q3:Chunk} :Prop:=av w L v [[q0],[q1],[q2],[q3]]
abbrev Uu4x2 {w:World} {L:List Chunk} {v:World} {q0 q1 q2 q3:Chunk} :Prop:=av w L v [[q0],[q1],[q2],[q3],[],[]]
abbrev Uu5 {w:World} {L:List Chunk} {v:World} {q0 q1 q2 q3 q4:Chunk} :Prop:=av w L v [[q0],[q1],[q2],[q3],[q4]]
abbrev Uu5x1 {w:World} {L:List Chunk} {v:World} {q0 q1 q2 q3 q4:Chunk} :Prop:=av w L v [[q0],[q1],[q2],[q3],[q4],[]]
abbrev Uu6 {w:World} {L:List Chunk} {v:World} {q0 q1 q2 q3 q4 q5:Chunk} :Prop:=av w L v [[q0],[q1],[q2],[q3],[q4],[q5]]
abbrev Uu6x1 {w:World} {L:List Chunk} {v:World} {q0 q1 q2 q3 q4 q5:Chunk} :Prop:=av w L v [[q0],[q1],[q2],[q3],[q4],[q5],[]]
abbrev Uu6x2 {w:World} {L:List Chunk} {v:World} {q0 q1 q2 q3 q4 q5:Chunk} :Prop:=av w L v [[q0],[q1],[q2],[q3],[q4],[q5],[],[]]
abbrev Uu6x4 {w:World} {L:List Chunk} {v:World} {q0 q1 q2 q3 q4 q5:Chunk} :Prop:=av w L v [[q0],[q1],[q2],[q3],[q4],[q5],[],[],[],[]]
abbrev Uu7 {w:World} {L:List Chunk} {v:World} {q0 q1 q2 q3 q4 q5 q6:Chunk} :Prop:=av w L v [[q0],[q1],[q2],[q3],[q4],[q5],[q6]]
abbrev Uu7x2 {w:World} {L:List Chunk} {v:World} {q0 q1 q2 q3 q4 q5 q6:Chunk} :Prop:=av w L v [[q0],[q1],[q2],[q3],[q4],[q5],[q6],[],[]]
abbrev Uu8 {w:World} {L:List Chunk} {v:World} {q0 q1 q2 q3 q4 q5 q6 q7:Chunk} :Prop:=av w L v [[q0],[q1],[q2],[q3],[q4],[q5],[q6],[q7]]
abbrev Uu9 {w:World} {L:List Chunk} {v:World} {q0 q1 q2 q3 q4 q5 q6 q7 q8:Chunk} :Prop:=av w L v [[q0],[q1],[q2],[q3],[q4],[q5],[q6],[q7],[q8]]
abbrev Uu9x1 {w:World} {L:List Chunk} {v:World} {q0 q1 q2 q3 q4 q5 q6 q7 q8:Chunk} :Prop:=av w L v [[q0],[q1],[q2],[q3],[q4],[q5],[q6],[q7],[q8],[]]
abbrev Uu9x2 {w:World} {L:List Chunk} {v:World} {q0 q1 q2 q3 q4 q5 q6 q7 q8:Chunk} :Prop:=av w L v [[q0],[q1],[q2],[q3],[q4],[q5],[q6],[q7],[q8],[],[]]
abbrev Uu10 {w:World} {L:List Chunk} {v:World} {q0 q1 q2 q3 q4 q5 q6 q7 q8 q9:Chunk} :Prop:=av w L v [[q0],[q1],[q2],[q3],[q4],[q5],[q6],[q7],[q8],[q9]]
abbrev Uu11 {w:World} {L:List Chunk} {v:World} {q0 q1 q2 q3 q4 q5 q6 q7 q8 q9 q10:Chunk} :Prop:=av w L v [[q0],[q1],[q2],[q3],[q4],[q5],[q6],[q7],[q8],[q9],[q10]]
abbrev Uu11x1 {w:World} {L:List Chunk} {v:World} {q0 q1 q2 q3 q4 q5 q6 q7 q8 q9 q10:Chunk} :Prop:=av w L v [[q0],[q1],[q2],[q3],[q4],[q5],[q6],[q7],[q8],[q9],[q10],[]]
abbrev Uu12x2 {w:World} {L:List Chunk} {v:World} {q0 q1 q2 q3 q4 q5 q6 q7 q8 q9 q10 q11:Chunk} :Prop:=av w L v [[q0],[q1],[q2],[q3],[q4],[q5],[q6],[q7],[q8],[q9],[q10],[q11],[],[]]
abbrev Uu12x3 {w:World} {L:List Chunk} {v:World} {q0 q1 q2 q3 q4 q5 q6 q7 q8 q9 q10 q11:Chunk} :Prop:=av w L v [[q0],[q1],[q2],[q3],[q4],[q5],[q6],[q7],[q8],[q9],[q10],[q11],[],[],[]]
abbrev Uu13 {w:World} {L:List Chunk} {v:World} {q0 q1 q2 q3 q4 q5 q6 q7 q8 q9 q10 q11 q12:Chunk} :Prop:=av w L v [[q0],[q1],[q2],[q3],[q4],[q5],[q6],[q7],[q8],[q9],[q10],[q11],[q12]]
abbrev Uu14 {w:World} {L:List Chunk} {v:World} {q0 q1 q2 q3 q4 q5 q6 q7 q8 q9 q10 q11 q12 q13:Chunk} :Prop:=av w L v [[q0],[q1],[q2],[q3],[q4],[q5],[q6],[q7],[q8],[q9],[q10],[q11],[q12],[q13]]
abbrev Env:=List (Nat×Value)
def look:Env→Nat→Option Value
  | [],_=>none
  | (k,v)::r,t=>match Nat.beq k t with|true=>some v|false=>look r t
theorem du (k:Nat) (v:Value) (r:Env):look ((k,v)::r) k=some v:=by simp [look]
theorem c0 {k t:Nat} (v:Value) (r:Env) (h:k≠t):look ((k,v)::r) t=look r t:=by
  have:Nat.beq k t=false:=by
    cases hb:Nat.beq k t
    · rfl
    · exact absurd (Nat.eq_of_beq_eq_true hb) h
  simp [look,this]
structure cR (n:Nat) (a:Act) (Γ:Env):Prop where
  size:a.tmps.size=n
  defers:a.defers=[]
  slot:∀t v,look Γ t=some v→a.tmps.getD t undef=v
def ev (Γ:Env):Operand→Option Value
  | .tmp t=>look Γ t
  | .const v=>some v
  | .global g=>some (.pointer (some ⟨g,0,none⟩))
  | .func f=>some (.func (.func f) #[] #[])
def J0 (Γ:Env):List Operand→Option (List Value)
  | []=>some []
  | x::r=>match ev Γ x,J0 Γ r with|some v,some l=>some (v::l)|_,_=>none
def Ku (ρ:Operand→Value) (Γ:Env):Prop:=∀x v,ev Γ x=some v→ρ x=v
theorem Ku.J0 {ρ:Operand→Value} {Γ:Env} (h:Ku ρ Γ):∀(l:List Operand) (vs:List Value),Sx.J0 Γ l=some vs→l.map ρ=vs
  | [],vs,e=>by simp [Sx.J0] at e;simp [e]
  | x::r,vs,e=>by
    simp only [Sx.J0] at e
    split at e
    · rename_i v l hv hl
      simp only [Option.some.injEq] at e
      subst e
      simp [h x v hv,h.J0 r l hl]
    · cases e
theorem cR.ev {n:Nat} {a:Act} {Γ:Env} (h:cR n a Γ):Ku a.eval Γ:=by
  intro x v e
  cases x with
  | tmp t=>exact h.slot t v e
  | const u=>simpa [Sx.ev,Act.eval] using e
  | global g=>simpa [Sx.ev,Act.eval] using e
  | func f=>simpa [Sx.ev,Act.eval] using e
theorem cR.put {n:Nat} {a:Act} {Γ:Env} (h:cR n a Γ) {d:Nat} (hd:Nat.blt d n=true) (v:Value):cR n (a.put (some d) v) ((d,v)::Γ):=by
  have TM:d<a.tmps.size:=by rw [h.size];exact of_eq_true (Eq.trans Nat.blt_eq.symm (eq_true hd))
  refine ⟨by simp [Act.put,h.size],by simp [Act.put,h.defers],fun t u e=>?_⟩
  by_cases ht:d=t
  · subst ht
    rw [du] at e
    simp only [Option.some.injEq] at e
    subst e
    simp [Act.put,Array.getD_eq_getD_getElem?,TM]
  · rw [c0 v Γ ht] at e
    have:=h.slot t u e
    simp only [Array.getD_eq_getD_getElem?] at this
    simp [Act.put,Array.getD_eq_getD_getElem?,ht,this]
theorem cR.SN {n:Nat} {a:Act} {Γ:Env} (h:cR n a Γ) (v:Value):cR n (a.put none v) Γ:=h
theorem cR.sub {n:Nat} {a:Act} {Γ Γ':Env} (h:cR n a Γ) (hs:∀t v,look Γ' t=some v→look Γ t=some v):cR n a Γ':=
  ⟨h.size,h.defers,fun t v e=>h.slot t v (hs t v e)⟩
def pick (Γ:Env):List Nat→Env
  | []=>[]
  | t::r=>match look Γ t with|some v=>(t,v)::pick Γ r|none=>pick Γ r
theorem sB (Γ:Env):∀(ks:List Nat) (t:Nat) (v:Value),look (pick Γ ks) t=some v→look Γ t=some v
  | [],t,v,e=>by simp [pick,look] at e
  | k::ks,t,v,e=>by
    simp only [pick] at e
    split at e
    · rename_i u hu
      by_cases hk:k=t
      · subst hk;rw [du] at e;rw [hu];exact e
      · rw [c0 u _ hk] at e;exact sB Γ ks t v e
    · exact sB Γ ks t v e
theorem cR.pick {n:Nat} {a:Act} {Γ:Env} (h:cR n a Γ) (ks:List Nat):cR n a (pick Γ ks):=h.sub (sB Γ ks)
def ex (ρ:Operand→Value) (op:Op) (ty:TypeId):Sem Next:=execOp ρ { dst:=none,op,type:=ty,pos:= "",after:= #[],guard:=none }
theorem RY (ρ:Operand→Value) (d:Option Tmp) (op:Op) (ty:TypeId) (pos:String) (after:Array Edge) (guard:Option (Nat×Bool)):
    execOp ρ { dst:=d,op,type:=ty,pos,after,guard } =ex ρ op ty:=rfl
def aX (R:Value→World→Prop):Ending→World→Prop:=fun e w=>∃v,e= .returned v∧R v w
theorem aX.calls {P:Program} {f:FuncId} {args:Array Value} {w:World} {R R':Value→World→Prop} (h:Calls P f args w (aX R)) (k:∀v w',R v w'→R' v w'):Calls P f args w (aX R'):=
  h.mono fun _ w' ⟨v,e,hr⟩=>⟨v,e,k v w' hr⟩
def aq (P:Program) (Γ:Env) (w:World) (op:Op) (ty:TypeId) (K:Value→World→Prop):Prop:=
  ∀ρ,Ku ρ Γ→match (ex ρ op ty).run P w with
    | .ok (.value v) w'=>K v w'
    | .ok .skip w'=>K undef w'
    | .ok (.enter f args) w'=>Calls P f args w' (aX K)
    | _=>False
theorem aq.mono {P:Program} {Γ:Env} {w:World} {op:Op} {ty:TypeId} {K K':Value→World→Prop} (h:aq P Γ w op ty K) (k:∀v w',K v w'→K' v w'):aq P Γ w op ty K':=by
  intro ρ hρ
  have:=h ρ hρ
  split at this
  · exact k _ _ this
  · exact k _ _ this
  · exact aX.calls this k
  · exact this.elim
theorem aq.of_run {P:Program} {Γ:Env} {w w':World} {op:Op} {ty:TypeId} {K:Value→World→Prop} {v:Value} (h:∀ρ,Ku ρ Γ→(ex ρ op ty).run P w= .ok (.value v) w') (k:K v w'):aq P Γ w op ty K:=by
  intro ρ hρ
  rw [h ρ hρ]
  exact k
theorem aq.qW {P:Program} {Γ:Env} {w w':World} {op:Op} {ty:TypeId} {K:Value→World→Prop} (h:∀ρ,Ku ρ Γ→(ex ρ op ty).run P w= .ok .skip w') (k:K undef w'):aq P Γ w op ty K:=by
  intro ρ hρ
  rw [h ρ hρ]
  exact k
theorem aq.wpR {P:Program} {Γ:Env} {w:World} {K:Value→World→Prop} {a:Act} {ρ:Operand→Value} {o:Oper} (h:aq P Γ w o.op o.type K) (hρ:Ku ρ Γ) (he:execOp a.eval o=execOp ρ o)
    {next:Act→World→Prop} {Q:Exit→Act→World→Prop} (k:∀v w',K v w'→next (a.put o.dst v) w'):Oper.wp P o a w next Q:=by
  have:=h ρ hρ
  unfold Oper.wp
  rw [he]
  cases o
  rw [RY]
  split at this<;>rename_i hr<;>simp only [hr,Oper.upon]
  · exact k _ _ this
  · exact k _ _ this
  · exact this.mono fun e w' ⟨v,he,hv⟩=>by subst he;exact k v w' hv
  · exact this.elim
theorem aq.wp {P:Program} {Γ:Env} {w:World} {op:Op} {ty:TypeId} {K:Value→World→Prop} (h:aq P Γ w op ty K) {n:Nat} {a:Act} (ha:cR n a Γ)
    {d:Option Tmp} {pos:String} {after:Array Edge} {guard:Option (Nat×Bool)} {next:Act→World→Prop} {Q:Exit→Act→World→Prop}
    (k:∀v w',K v w'→next (a.put d v) w'):Oper.wp P { dst:=d,op,type:=ty,pos,after,guard } a w next Q:=by
  have:=h a.eval ha.ev
  unfold Oper.wp
  rw [RY]
  split at this<;>rename_i hr<;>simp only [hr,Oper.upon]
  · exact k _ _ this
  · exact k _ _ this
  · exact this.mono fun e w' ⟨v,he,hv⟩=>by subst he;exact k v w' hv
  · exact this.elim
section
variable (P:Program) (n:Nat)
def W (c:Code) (Q:Exit→Act→World→Prop) (Γ:Env) (w:World):Prop:=∀a,cR n a Γ→c.wp P Q a w
def WL (ops:Array Oper) (Q:Exit→Act→World→Prop) (l:List Oper) (Γ:Env) (w:World):Prop:=∀a,cR n a Γ→wpList P ops Q l a w
def X (Q:Exit→Act→World→Prop) (e:Exit) (Γ:Env) (w:World):Prop:=∀a,cR n a Γ→Q e a w
end
section
variable {P:Program} {n:Nat} {ops:Array Oper} {Q:Exit→Act→World→Prop} {Γ:Env} {w:World} {rest:List Oper}
theorem WL.op {d:Nat} {op:Op} {ty:TypeId} {pos:String} {after:Array Edge} (hd:Nat.blt d n=true)
    (h:aq P Γ w op ty fun v w'=>WL P n ops Q rest ((d,v)::Γ) w'):WL P n ops Q ({ dst:=some d,op,type:=ty,pos,after,guard:=none } ::rest) Γ w:=
  fun a ha=>by
    unfold wpList
    rw [if_pos (by rfl)]
    exact .inl (h.wp ha fun v w' k=>k _ (ha.put hd v))
theorem WL.op0 {op:Op} {ty:TypeId} {pos:String} {after:Array Edge}
    (h:aq P Γ w op ty fun _ w'=>WL P n ops Q rest Γ w'):WL P n ops Q ({ dst:=none,op,type:=ty,pos,after,guard:=none } ::rest) Γ w:=
  fun a ha=>by
    unfold wpList
    rw [if_pos (by rfl)]
    exact .inl (h.wp ha fun v w' k=>k _ (ha.SN v))
theorem Eb {a:Act} (ha:cR n a Γ) {j t:Nat} {b:Bool} (hj:(ops[j]?).bind (·.dst)=some t) (hv:look Γ t=some (.bool b)):yielded ops a.tmps j=some b:=by
  have h:=ha.slot t _ hv
  rw [Array.getD_eq_getD_getElem?] at h
  unfold yielded
  rw [hj]
  simp only [Option.bind_some]
  cases hx:a.tmps[t]? with
  | none=>rw [hx] at h;simp [undef] at h
  | some u=>rw [hx] at h;simp at h;subst h;rfl
theorem oL {a:Act} (ha:cR n a Γ) {o:Oper} {j t:Nat} {want b:Bool} (hg:o.guard=some (j,want)) (hj:(ops[j]?).bind (·.dst)=some t) (hv:look Γ t=some (.bool b)):
    Region.wanted o (yielded ops a.tmps)=(b==want):=by
  unfold Region.wanted
  rw [hg]
  simp only [Eb ha hj hv]
  cases b<;>cases want<;>rfl
theorem qG {a:Act} (ha:cR n a Γ) {o:Oper} {j t:Nat} {want:Bool} (hg:o.guard=some (j,want)) (hj:(ops[j]?).bind (·.dst)=some t) (hv:look Γ t=some undef):
    Region.wanted o (yielded ops a.tmps)=false:=by
  have h:=ha.slot t _ hv
  rw [Array.getD_eq_getD_getElem?] at h
  have:yielded ops a.tmps j=none:=by
    unfold yielded
    rw [hj]
    simp only [Option.bind_some]
    cases hx:a.tmps[t]? with
    | none=>rfl
    | some u=>rw [hx] at h;simp at h;subst h;rfl
  unfold Region.wanted
  rw [hg]
  simp only [this]
  rfl
theorem WL.opU {d:Nat} {op:Op} {ty:TypeId} {pos:String} {after:Array Edge} {j t:Nat} {want:Bool} (hj:(ops[j]?).bind (·.dst)=some t) (hv:look Γ t=some undef) (hd:Nat.blt d n=true)
    (h:WL P n ops Q rest ((d,undef)::Γ) w):WL P n ops Q ({ dst:=some d,op,type:=ty,pos,after,guard:=some (j,want) } ::rest) Γ w:=
  fun a ha=>by
    unfold wpList
    rw [if_neg (by rw [qG ha rfl hj hv];simp)]
    exact h _ (ha.put hd undef)
theorem WL.abx {op:Op} {ty:TypeId} {pos:String} {after:Array Edge} {j t:Nat} {want:Bool} (hj:(ops[j]?).bind (·.dst)=some t) (hv:look Γ t=some undef)
    (h:WL P n ops Q rest Γ w):WL P n ops Q ({ dst:=none,op,type:=ty,pos,after,guard:=some (j,want) } ::rest) Γ w:=
  fun a ha=>by
    unfold wpList
    rw [if_neg (by rw [qG ha rfl hj hv];simp)]
    exact h _ ha
theorem WL.opG {d:Nat} {op:Op} {ty:TypeId} {pos:String} {after:Array Edge} {j t:Nat} {want:Bool} (hj:(ops[j]?).bind (·.dst)=some t) (hv:look Γ t=some (.bool want)) (hd:Nat.blt d n=true)
    (h:aq P Γ w op ty fun v w'=>WL P n ops Q rest ((d,v)::Γ) w'):WL P n ops Q ({ dst:=some d,op,type:=ty,pos,after,guard:=some (j,want) } ::rest) Γ w:=
  fun a ha=>by
    unfold wpList
    rw [if_pos (by rw [oL ha rfl hj hv];simp)]
    exact .inl (h.wp ha fun v w' k=>k _ (ha.put hd v))
theorem WL.opN {d:Nat} {op:Op} {ty:TypeId} {pos:String} {after:Array Edge} {j t:Nat} {want b:Bool} (hj:(ops[j]?).bind (·.dst)=some t) (hv:look Γ t=some (.bool b)) (hb:(b==want)=false) (hd:Nat.blt d n=true)
    (h:WL P n ops Q rest ((d,undef)::Γ) w):WL P n ops Q ({ dst:=some d,op,type:=ty,pos,after,guard:=some (j,want) } ::rest) Γ w:=
  fun a ha=>by
    unfold wpList
    rw [if_neg (by rw [oL ha rfl hj hv,hb];simp)]
    exact h _ (ha.put hd undef)
theorem WL.aby {op:Op} {ty:TypeId} {pos:String} {after:Array Edge} {j t:Nat} {want b:Bool} (hj:(ops[j]?).bind (·.dst)=some t) (hv:look Γ t=some (.bool b)) (hb:(b==want)=false)
    (h:WL P n ops Q rest Γ w):WL P n ops Q ({ dst:=none,op,type:=ty,pos,after,guard:=some (j,want) } ::rest) Γ w:=
  fun a ha=>by
    unfold wpList
    rw [if_neg (by rw [oL ha rfl hj hv,hb];simp)]
    exact h _ (ha.SN undef)
theorem cR.bool {a:Act} {t:Nat} {p:Prop} [Decidable p] (ha:cR n a Γ) (ht:look Γ t=some (.bool (decide p))) {b:Bool} (hb:decide p=b):cR n a ((t,.bool b)::Γ):=
  ha.sub fun u v e=>by
    by_cases hu:t=u
    · subst hu;rw [du] at e;rw [ht,hb];exact e
    · rwa [c0 _ _ hu] at e
theorem WL.part {l:List Oper} (t:Nat) {p:Prop} [Decidable p] (ht:look Γ t=some (.bool (decide p))) (h1:p→WL P n ops Q l ((t,.bool true)::Γ) w) (h2:¬p→WL P n ops Q l ((t,.bool false)::Γ) w):WL P n ops Q l Γ w:=
  fun a ha=>by
    by_cases hp:p
    · exact h1 hp a (ha.bool ht (by simp [hp]))
    · exact h2 hp a (ha.bool ht (by simp [hp]))
theorem WL.done (h:X n Q .normal Γ w):WL P n ops Q [] Γ w:=fun a ha=>h a ha
theorem W.region {id:Nat} {l:List Oper} (h:WL P n l.toArray Q l Γ w):W P n (.region id l.toArray false) Q Γ w:=fun a ha=>wp_region_lit (h a ha)
theorem W.seq {x y:Code} (h:W P n x (Exit.then (y.wp P Q) Q) Γ w):W P n (.seq x y) Q Γ w:=fun a ha=>wp_seq (h a ha)
theorem W.skip (h:X n Q .normal Γ w):W P n .skip Q Γ w:=fun a ha=>wp_skip (h a ha)
theorem W.ret (h:X n Q .ret Γ w):W P n .ret Q Γ w:=fun a ha=>wp_ret (h a ha)
theorem W.exit {id:Nat} (h:X n Q (.exit id) Γ w):W P n (.exit id) Q Γ w:=fun a ha=>wp_exit (h a ha)
theorem W.block {id:Nat} {c:Code} (h:W P n c (Exit.inBlock id Q) Γ w):W P n (.block id c) Q Γ w:=fun a ha=>wp_block (h a ha)
theorem W.ift {c:Operand} {x y:Code} (hc:ev Γ c=some (.bool true)) (h:W P n x Q Γ w):W P n (.cond c x y) Q Γ w:=fun a ha=>wp_cond_true (ha.ev _ _ hc) (h a ha)
theorem W.iff {c:Operand} {x y:Code} (hc:ev Γ c=some (.bool false)) (h:W P n y Q Γ w):W P n (.cond c x y) Q Γ w:=fun a ha=>wp_cond_false (ha.ev _ _ hc) (h a ha)
theorem W.ite {c:Operand} {x y:Code} {p:Prop} [Decidable p] (hc:ev Γ c=some (.bool (decide p))) (h1:p→W P n x Q Γ w) (h2:¬p→W P n y Q Γ w):W P n (.cond c x y) Q Γ w:=
  fun a ha=>wp_cond_split (ha.ev _ _ hc) (fun h=>h1 (of_decide_eq_true h) a ha) (fun h=>h2 (of_decide_eq_false h) a ha)
theorem W.pick {c:Code} (ks:List Nat) {Γ':Env} (e:Sx.pick Γ ks=Γ') (h:W P n c Q Γ' w):W P n c Q Γ w:=fun a ha=>h a (e▸ha.pick ks)
theorem W.loop {c:Code} (I:Nat→Env→World→Prop) (m:Nat) (h0:I m Γ w)
    (round:∀m Γ w,I m Γ w→W P n c (Exit.then (fun a' w'=>∃m',m'<m∧∃Γ',cR n a' Γ'∧I m' Γ' w') Q) Γ w):W P n (.loop c) Q Γ w:=by
  intro a ha
  refine wp_loop_ghost (fun k a w=>∃Γ,cR n a Γ∧I k Γ w) m ⟨Γ,ha,h0⟩ ?_
  rintro k a w ⟨Γ,ha,hI⟩
  exact round k Γ w hI a ha
theorem X.yg {y:Code} (h:W P n y Q Γ w):X n (Exit.then (y.wp P Q) Q) .normal Γ w:=h
theorem X.AZ {id:Nat} (h:X n Q .normal Γ w):X n (Exit.inBlock id Q) .normal Γ w:=h
theorem W.cut {x y:Code} (I:Env→World→Prop) (h1:W P n x (Exit.then (fun a' w'=>∃Γ',cR n a' Γ'∧I Γ' w') Q) Γ w) (h2:∀Γ w,I Γ w→W P n y Q Γ w):W P n (.seq x y) Q Γ w:=
  fun a ha=>wp_seq (wp_mono (h1 a ha) fun e a' w' hq=>by
    cases e with
    | normal=>obtain ⟨Γ',hA,hI⟩:=hq;exact h2 Γ' w' hI a' hA
    | exit id=>exact hq
    | goto l=>exact hq
    | ret=>exact hq
    | panic ch=>exact hq
    | outgrown=>exact hq)
end
def nM:Nat→List Value→Env
  | _,[]=>[]
  | k,v::r=>(k,v)::nM (k+1) r
theorem tA:∀(l:List Value) (k t:Nat) (v:Value),look (nM k l) t=some v→k≤t∧l[t-k]?=some v
  | [],k,t,v,e=>by simp [nM,look] at e
  | u::l,k,t,v,e=>by
    by_cases h:k=t
    · subst h;simp only [nM] at e;rw [du] at e;simpa using e
    · simp only [nM] at e
      rw [c0 _ _ h] at e
      obtain ⟨h1,h2⟩:=tA l (k+1) t v e
      refine ⟨by omega,?_⟩
      rw [show t-k=(t-(k+1))+1 by omega]
      simpa using h2
theorem wN {P:Program} {f:FuncId} {fn:Func} {c:Code} {args:List Value} {w:World} {R:Value→World→Prop} {m:Nat}
    (hf:P.funcs[f]?=some fn) (hb:fn.body=some c) (hm:fn.ntmps=m) (hl:Nat.ble args.length m=true) (h:W P m c (bodyPost P fn (aX R)) (nM 0 args) w):Calls P f args.toArray w (aX R):=by
  refine calls_of_wp hf hb (h _ ⟨?_,rfl,?_⟩)
  · have:=Nat.le_of_ble_eq_true hl
    simp [hm];omega
  · intro t v e
    obtain ⟨_,h2⟩:=tA args 0 t v e
    simp only [Nat.sub_zero] at h2
    have cF:t<args.length:=(List.getElem?_eq_some_iff.1 h2).1
    rw [Array.getD_eq_getD_getElem?,Array.getElem?_append_left (by simpa using cF)]
    simp [h2]
theorem X.abh {P:Program} {fn:Func} {n:Nat} {Γ:Env} {w:World} {R:Value→World→Prop} {t:Nat} (hr:fn.results= #[.tmp t]) {v:Value} (hv:look Γ t=some v) (h:R v w):X n (bodyPost P fn (aX R)) .ret Γ w:=
  fun a ha=>bodyPost_ret (results_tmp hr _ _ _) ha.defers ⟨_,rfl,by rw [ha.slot t v hv];exact h⟩
theorem X.abg {P:Program} {fn:Func} {n:Nat} {Γ:Env} {w:World} {R:Value→World→Prop} {t u:Nat} (hr:fn.results= #[.tmp t,.tmp u]) {v1 v2:Value} (h1:look Γ t=some v1) (h2:look Γ u=some v2) (h:R (.tuple #[v1,v2]) w):X n (bodyPost P fn (aX R)) .ret Γ w:=
  fun a ha=>bodyPost_ret (results_tmp2 hr _ _ _) ha.defers ⟨_,rfl,by rw [ha.slot t v1 h1,ha.slot u v2 h2];exact h⟩
theorem X.abf {P:Program} {fn:Func} {n:Nat} {Γ:Env} {w:World} {R:Value→World→Prop} {t u s:Nat} (hr:fn.results= #[.tmp t,.tmp u,.tmp s]) {v1 v2 v3:Value} (h1:look Γ t=some v1) (h2:look Γ u=some v2) (h3:look Γ s=some v3) (h:R (.tuple #[v1,v2,v3]) w):X n (bodyPost P fn (aX R)) .ret Γ w:=
  fun a ha=>bodyPost_ret (v:= .tuple #[v1,v2,v3]) (by simp only [results,hr];have e1:=ha.slot t v1 h1;have e2:=ha.slot u v2 h2;have e3:=ha.slot s v3 h3;simp only [Array.getD_eq_getD_getElem?] at e1 e2 e3;simp [e1,e2,e3]) ha.defers ⟨_,rfl,h⟩
theorem X.adS {P:Program} {fn:Func} {n:Nat} {Γ:Env} {w:World} {R:Value→World→Prop} (hr:fn.results= #[]) (h:R (.tuple #[]) w):X n (bodyPost P fn (aX R)) .normal Γ w:=
  fun _ ha=>bodyPost_end (results_none hr _ _ _) ha.defers ⟨_,rfl,h⟩
theorem X.abi {P:Program} {fn:Func} {n:Nat} {Γ:Env} {w:World} {R:Value→World→Prop} (hr:fn.results= #[]) (h:R (.tuple #[]) w):X n (bodyPost P fn (aX R)) .ret Γ w:=
  fun _ ha=>bodyPost_ret (results_none hr _ _ _) ha.defers ⟨_,rfl,h⟩
def kP:TypeDesc→Bool| .struct _| .array _ _=>true|_=>false
def bX (P:Program) (t:TypeId):Option (Nat×Nat×Option Value):=(P.info? t).map fun i=>(i.size,i.bytes,i.zero)
def lX (P:Program) (t:TypeId) (f:Nat):Option (Nat×Nat×Bool):=
  match P.underlying t with
  | some (.struct fs)=>match fs[f]? with
    | some fd=>match P.info? fd.type,P.underlying fd.type with
      | some i,some d=>some (fd.offset,i.size,kP d)
      | _,_=>none
    | none=>none
  | _=>none
section
variable {P:Program} {w:World} {t:TypeId}
theorem lI {s b:Nat} {z:Option Value} (h:bX P t=some (s,b,z)):∃i,P.info? t=some i∧i.size=s∧i.bytes=b∧i.zero=z:=by
  unfold bX at h
  cases hi:P.info? t with
  | none=>rw [hi] at h;simp at h
  | some i=>rw [hi] at h;simp at h;exact ⟨i,rfl,h.1,h.2.1,h.2.2⟩
theorem kf {s b:Nat} {z:Option Value} (h:bX P t=some (s,b,z)):(sizeOf t).run P w= .ok s w:=by
  obtain ⟨i,hi,rfl,_,_⟩:=lI h
  simp [sizeOf,typeInfo,hi]
theorem qQ {s b:Nat} {z:Value} (h:bX P t=some (s,b,some z)):(zeroValue t).run P w= .ok z w:=by
  obtain ⟨i,hi,_,_,hz⟩:=lI h
  simp [zeroValue,typeInfo,hi,hz]
theorem jW {d:TypeDesc} (h:P.underlying t=some d):(isAgg t).run P w= .ok (kP d) w:=by
  unfold isAgg
  simp only [Sem.run_bind,run_underlying h,Result.andThen_ok]
  cases d<;>rfl
end
section
variable {P:Program} {Γ:Env} {w:World} {ty:TypeId} {K:Value→World→Prop}
theorem Ur {x:Operand} {v:Value} (hx:ev Γ x=some v) (k:K v w):aq P Γ w (.move x) ty K:=
  aq.of_run (fun ρ hρ=>by simp [ex,execOp,hρ x v hx]) k
theorem NF {x:Operand} {v:Value} (hx:ev Γ x=some v) (k:K v w):aq P Γ w (.assign x) ty K:=
  aq.of_run (fun ρ hρ=>by simp [ex,execOp,hρ x v hx]) k
theorem wF {x:Operand} {ad:Addr} (hx:ev Γ x=some (.pointer (some ad))) (k:K (.pointer (some ad)) w):aq P Γ w (.nilCheck x) ty K:=
  aq.of_run (fun ρ hρ=>by simp [ex,execOp,hρ x _ hx]) k
theorem Dm {x:Operand} {f:FuncId} {a b:Array Value} (hx:ev Γ x=some (.func (.func f) a b)) (k:K (.func (.func f) a b) w):aq P Γ w (.nilCheck x) ty K:=
  aq.of_run (fun ρ hρ=>by simp [ex,execOp,hρ x _ hx]) k
theorem Uo {c x y:Operand} {b:Bool} {v:Value} (hc:ev Γ c=some (.bool b)) (hv:(match b with|true=>ev Γ x|false=>ev Γ y)=some v) (k:K v w):aq P Γ w (.pick c x y) ty K:=
  aq.of_run (fun ρ hρ=>by
    cases b
    · simp [ex,execOp,hρ c _ hc,hρ y _ hv,asBool]
    · simp [ex,execOp,hρ c _ hc,hρ x _ hv,asBool]) k
theorem J6 {x:Operand} {i:Nat} {vs:Array Value} {v:Value} (hx:ev Γ x=some (.tuple vs)) (hv:vs[i]?=some v) (k:K v w):aq P Γ w (.extract x i) ty K:=
  aq.of_run (fun ρ hρ=>by simp [ex,execOp,hρ x _ hx,Instr.extract,hv]) k
theorem Nu {t:TypeId} {x:Operand} {ad:Addr} {d:TypeDesc} {v:Value} (ht:P.underlying t=some d) (hd:kP d=false) (hx:ev Γ x=some (.pointer (some ad))) (hc:w.cell? ad=some v) (k:K v w):aq P Γ w (.load t x) ty K:=
  aq.of_run (fun ρ hρ=>by
    simp only [ex,execOp,hρ x _ hx,Instr.loadAt,Instr.sureAddr,loadVar]
    simp [jW ht,hd,load,Sem.run,hc]) k
theorem ij {g:Nat} {cs:Array Value} {e:TypeId} (h:w.heap[g]?=some (.cells cs e (0,0))) (off:Nat):w.cell? ⟨g,off,none⟩=cs[off]?:=by simp [World.cell?,h]
theorem HT {t:TypeId} {x:Operand} {g off:Nat} {cs:Array Value} {e:TypeId} {d:TypeDesc} {v:Value} (ht:P.underlying t=some d) (hd:kP d=false) (hx:ev Γ x=some (.pointer (some ⟨g,off,none⟩)))
    (hb:w.heap[g]?=some (.cells cs e (0,0))) (hv:cs[off]?=some v) (k:K v w):aq P Γ w (.load t x) ty K:=
  Nu ht hd hx (by rw [ij hb];exact hv) k
theorem HU {t:TypeId} {x:Operand} {ad:Addr} {d:TypeDesc} {s b:Nat} {z:Option Value} {cs:List Value} (ht:P.underlying t=some d) (hd:kP d=true) (hs:bX P t=some (s,b,z)) (hx:ev Γ x=some (.pointer (some ad)))
    (hl:cs.length=s) (hc:∀j u,cs[j]?=some u→w.cell? (ad.add j)=some u) (k:K (.agg cs.toArray) w):aq P Γ w (.load t x) ty K:=
  aq.of_run (fun ρ hρ=>by
    simp only [ex,execOp,hρ x _ hx,Instr.loadAt,Instr.sureAddr,loadVar]
    subst hl
    simp [jW ht,hd,kf hs,run_loadCells_list (P:=P) (w:=w) ad cs hc]) k
theorem ld (g off j:Nat):(⟨g,off,none⟩:Addr).add j=⟨g,off+j,none⟩:=by unfold Addr.add;split<;>simp_all
theorem Nt {t:TypeId} {x:Operand} {g off:Nat} {cs:Array Value} {e:TypeId} {d:TypeDesc} {s b:Nat} {z:Option Value} (us:List Value) (ht:P.underlying t=some d) (hd:kP d=true) (hs:bX P t=some (s,b,z)) (hx:ev Γ x=some (.pointer (some ⟨g,off,none⟩)))
    (hb:w.heap[g]?=some (.cells cs e (0,0))) (hl:us.length=s) (hc:(cs.toList.drop off).take s=us) (k:K (.agg us.toArray) w):aq P Γ w (.load t x) ty K:=
  HU ht hd hs hx hl (fun j u hj=>by
    rw [ld,ij hb]
    rw [←hc,List.getElem?_take] at hj
    split at hj
    · simpa using hj
    · cases hj) k
def bu:Value→Nat→Value
  | .slice (some a) _ _,j=> .pointer (some (a.add j))
  | _,_=> .nilFunc
theorem Rd.ptr {v:Value} {sz n:Nat} {vs:List Value} (h:Rd w v sz n vs) {j:Nat} {u:Value} (hj:vs[j]?=some u):∃ad,bu v j= .pointer (some (ad.add j))∧w.cell? (ad.add j)=some u∧∃c,v= .slice (some ad) n c:=by
  obtain ⟨A,cap,rfl,_,_,h3⟩:=h
  obtain ⟨ad,rfl,hc⟩:=h3 j u hj
  exact ⟨ad,rfl,hc,cap,rfl⟩
theorem tK {t e:TypeId} {x ix:Operand} {v:Value} {kd:IntKind} {i:Int} {sz b n:Nat} {z:Option Value} {vs:List Value} (ht:P.underlying t=some (.slice e)) (hs:bX P e=some (sz,b,z))
    (hx:ev Γ x=some v) (hi:ev Γ ix=some (.int kd i)) (hr:Rd w v sz n vs) (h0:0≤i) (h1:i<n) (hz:0<sz) (k:K (bu v (i.toNat*sz)) w):aq P Γ w (.indexAddr t x ix) ty K:=
  aq.of_run (fun ρ hρ=>by
    have cF:i.toNat*sz<vs.length:=by
      rw [hr.len]
      exact Nat.mul_lt_mul_of_pos_right oz hz
    obtain ⟨ad,he,_,c,hv⟩:=hr.ptr (List.getElem?_eq_getElem cF)
    subst hv
    simp only [ex,execOp,hρ x _ hx,hρ ix _ hi,Instr.indexAt,asIntOf]
    simp [run_underlying ht,kf hs,h0,h1,bu]) k
theorem HS {t:TypeId} {x:Operand} {v:Value} {j sz n:Nat} {vs:List Value} {d:TypeDesc} {u:Value} (ht:P.underlying t=some d) (hd:kP d=false) (hx:ev Γ x=some (bu v j)) (hr:Rd w v sz n vs) (hj:vs[j]?=some u) (k:K u w):aq P Γ w (.load t x) ty K:=by
  obtain ⟨ad,he,hc,_⟩:=hr.ptr hj
  exact Nu ht hd (he▸hx) hc k
theorem add_add (a:Addr) (i j:Nat):(a.add i).add j=a.add (i+j):=by
  unfold Addr.add
  split<;>split<;>split<;>simp_all<;>omega
theorem Dn {t:TypeId} {x:Operand} {v:Value} {j sz n s b:Nat} {z:Option Value} {vs:List Value} {d:TypeDesc} (us:List Value) (ht:P.underlying t=some d) (hd:kP d=true) (hs:bX P t=some (s,b,z)) (hx:ev Γ x=some (bu v j)) (hr:Rd w v sz n vs)
    (hl:us.length=s) (hp:0<s) (hc:(vs.drop j).take s=us) (k:K (.agg us.toArray) w):aq P Γ w (.load t x) ty K:=by
  have r9:∀i u,us[i]?=some u→vs[j+i]?=some u:=fun i u hi=>by
    rw [←hc,List.getElem?_take] at hi
    split at hi
    · simpa using hi
    · cases hi
  have h0:us[0]?=some us[0]:=List.getElem?_eq_getElem oz
  obtain ⟨ad,he,_,c,hv⟩:=hr.ptr (r9 0 _ h0)
  refine HU ht hd hs (ad:=ad.add j) (by rw [hx,←Nat.add_zero j,he]) hl (fun i u hi=>?_) k
  obtain ⟨ad',he',D6,c',hv'⟩:=hr.ptr (r9 i u hi)
  rw [hv] at hv'
  injection hv' with e1
  injection e1 with e1
  subst e1
  rw [add_add];exact D6
theorem vi {fd:Field} {i:TypeInfo} (hs:P.info? fd.type=some i) (hz:i.size≠0) (ad:Addr):(fieldPlace ad fd).run P w= .ok (ad.add fd.offset) w:=by
  simp [fieldPlace,sizeOf,typeInfo,hs,hz]
theorem tL {t:TypeId} {x:Operand} {f off s:Nat} {g:Bool} {ad:Addr} (hf:lX P t f=some (off,s,g)) (hs:Nat.beq s 0=false) (hx:ev Γ x=some (.pointer (some ad))) (k:K (.pointer (some (ad.add off))) w):aq P Γ w (.fieldAddr t x f) ty K:=
  aq.of_run (fun ρ hρ=>by
    unfold lX at hf
    split at hf
    · rename_i fs hu
      split at hf
      · rename_i fd OE
        split at hf
        · rename_i i d hi hd
          simp only [Option.some.injEq,Prod.mk.injEq] at hf
          obtain ⟨rfl,rfl,_⟩:=hf
          have hz:i.size≠0:=by intro e;rw [e] at hs;simp at hs
          simp only [ex,execOp,hρ x _ hx,Instr.fieldAt,Instr.sureAddr]
          simp [run_underlying hu,OE,vi hi hz]
        · cases hf
      · cases hf
    · cases hf) k
theorem AF {t:TypeId} {x:Operand} {f off s:Nat} {a:Bool} {g o:Nat} (hf:lX P t f=some (off,s,a)) (hs:Nat.beq s 0=false) (hx:ev Γ x=some (.pointer (some ⟨g,o,none⟩))) (k:K (.pointer (some ⟨g,o+off,none⟩)) w):aq P Γ w (.fieldAddr t x f) ty K:=
  tL hf hs hx (by rw [ld];exact k)
theorem AE {t:TypeId} {x:Operand} {f off s:Nat} {a:Bool} {v:Value} {j n sz:Nat} {vs:List Value} {u:Value} (hf:lX P t f=some (off,s,a)) (hs:Nat.beq s 0=false) (hx:ev Γ x=some (bu v j)) (hr:Rd w v sz n vs) (hj:vs[j]?=some u) (k:K (bu v (j+off)) w):aq P Γ w (.fieldAddr t x f) ty K:=by
  obtain ⟨ad,he,_,c,rfl⟩:=hr.ptr hj
  exact tL hf hs (he▸hx) (by simpa [bu,add_add] using k)
theorem Qq {t:TypeId} {x:Operand} {f off s:Nat} {cs:Array Value} {v:Value} (hf:lX P t f=some (off,s,false)) (hx:ev Γ x=some (.agg cs)) (hv:cs[off]?=some v) (k:K v w):aq P Γ w (.field t x f) ty K:=
  aq.of_run (fun ρ hρ=>by
    unfold lX at hf
    split at hf
    · rename_i fs hu
      split at hf
      · rename_i fd OE
        split at hf
        · rename_i i d hi hd
          simp only [Option.some.injEq,Prod.mk.injEq] at hf
          obtain ⟨rfl,rfl,hg⟩:=hf
          simp only [ex,execOp,hρ x _ hx,Instr.field,asAgg,part]
          simp [run_underlying hu,OE,jW hd,hg,hv]
        · cases hf
      · cases hf
    · cases hf) k
theorem NB {t:TypeId} {x:Operand} {f off s:Nat} {cs:Array Value} {us:Array Value} (hf:lX P t f=some (off,s,true)) (hx:ev Γ x=some (.agg cs)) (hv:cs.extract off (off+s)=us) (k:K (.agg us) w):aq P Γ w (.field t x f) ty K:=
  aq.of_run (fun ρ hρ=>by
    unfold lX at hf
    split at hf
    · rename_i fs hu
      split at hf
      · rename_i fd OE
        split at hf
        · rename_i i d hi hd
          simp only [Option.some.injEq,Prod.mk.injEq] at hf
          obtain ⟨rfl,rfl,hg⟩:=hf
          simp only [ex,execOp,hρ x _ hx,Instr.field,asAgg,part]
          simp [run_underlying hu,OE,jW hd,hg,sizeOf,typeInfo,hi,hv]
        · cases hf
      · cases hf
    · cases hf) k
theorem Eu {ad:Addr} {v yB:Value} (h1:v.oneCell'=true) (hc:w.cell? ad=some yB) (hf:w.frozen? ad=false):(store ad v).run P w= .ok () (w.setCell ad v):=by
  rw [run_store P w ad v _ h1,hc]
  simp [hf]
theorem Kb {v:Value} (h1:v.oneCell'=true):v.cells= #[v]:=by cases v<;>simp_all [Value.oneCell',Value.cells]
theorem HP {t:TypeId} {x y:Operand} {ad:Addr} {b:Nat} {z:Option Value} {v yB:Value} (hs:bX P t=some (1,b,z)) (hx:ev Γ x=some (.pointer (some ad))) (hy:ev Γ y=some v) (h1:v.oneCell'=true)
    (hc:w.cell? ad=some yB) (hf:w.frozen? ad=false) (k:K undef (w.setCell ad v)):aq P Γ w (.store t x y) ty K:=
  aq.qW (fun ρ hρ=>by
    simp only [ex,execOp,hρ x _ hx,hρ y _ hy,Instr.storeAt,Instr.sureAddr,storeVar,Kb h1]
    have h0:ad.add 0=ad:=by simp [Addr.add]
    simp [kf hs,storeCells,h0,Eu h1 hc hf]) k
theorem Dl {t:TypeId} {x y:Operand} {g off b:Nat} {cs:Array Value} {e:TypeId} {z:Option Value} {v:Value} (hs:bX P t=some (1,b,z)) (hx:ev Γ x=some (.pointer (some ⟨g,off,none⟩))) (hy:ev Γ y=some v) (h1:v.oneCell'=true)
    (hb:w.heap[g]?=some (.cells cs e (0,0))) (hl:Nat.blt off cs.size=true) (k:∀w',ax w [aQ g cs e] w' [aQ g (cs.setIfInBounds off v) e]→K undef w'):aq P Γ w (.store t x y) ty K:=by
  have Fz:off<cs.size:=of_eq_true (Eq.trans Nat.blt_eq.symm (eq_true hl))
  exact HP hs hx hy h1 (yB:=cs[off]) (by rw [ij hb];exact Array.getElem?_eq_getElem Fz) (by simp [World.frozen?,hb]) (k _ (ax.setCell hb off v))
theorem ax.setRow {g:Nat} {cs Qz:Array Value} {e:TypeId} (h:w.heap[g]?=some (.cells cs e (0,0))):ax w [aQ g cs e] (w.setRow g Qz) [aQ g Qz e]:=by
  refine ⟨⟨fun c hc=>?_,by simp [dn,Sx.aQ]⟩,⟨rfl,rfl,rfl,by simp [World.setRow],fun k hk hs=>?_⟩,fun g' hg=>?_⟩
  · simp only [List.mem_singleton] at hc;subst hc
    show (w.setRow g Qz).heap[g]?=_
    simp [World.setRow,Array.getElem?_modify,h]
  · have:k≠g:=by intro e';subst e';simp [dn,Sx.aQ] at hs
    simp [World.setRow,Array.getElem?_modify,Ne.symm this]
  · left;simpa [dn,Sx.aQ] using hg
theorem J3 {t:TypeId} {x y:Operand} {g off s b:Nat} {cs:Array Value} {us:List Value} {e:TypeId} {z:Option Value} (hs:bX P t=some (s,b,z)) (hx:ev Γ x=some (.pointer (some ⟨g,off,none⟩))) (hy:ev Γ y=some (.agg us.toArray)) (hl:us.length=s)
    (h1:us.all (·.oneCell')=true) (hb:w.heap[g]?=some (.cells cs e (0,0))) (hle:Nat.ble (off+us.length) cs.size=true) {Qz:Array Value} (hc:(cs.toList.take off++us++cs.toList.drop (off+us.length)).toArray=Qz)
    (k:∀w',ax w [aQ g cs e] w' [aQ g Qz e]→K undef w'):aq P Γ w (.store t x y) ty K:=
  aq.qW (w':=w.setRow g Qz) (fun ρ hρ=>by
    simp only [ex,execOp,hρ x _ hx,hρ y _ hy,Instr.storeAt,Instr.sureAddr,storeVar,Value.cells]
    have:=run_storeCells_at P g off e us 0 cs w hb (by simpa using Nat.le_of_ble_eq_true hle) (by simpa using h1)
    simp only [Nat.add_zero,hc] at this
    simp [kf hs,hl,this]) (k _ (ax.setRow hb))
theorem Pe {v:Value} {e:TypeId} {sz n:Nat} {vs:List Value} (h:w.ownsRow 0 e sz v n vs) {j:Nat} (hj:j<vs.length) (u:Value):
    ∃ad yB,bu v j= .pointer (some ad)∧w.cell? ad=some yB∧w.frozen? ad=false∧ax w [row v e sz n vs] (w.setCell ad u) [row v e sz n (vs.set j u)]:=by
  obtain ⟨h1,h2⟩:=h
  rcases h2 with ⟨rfl,rfl⟩|⟨g,cap,cur,rfl,_,h3,h4,h5,h6,h7⟩
  · omega
  · have cF:j<cur.size:=by
      have:vs.length≤cur.size:=by rw [←h7];simp;omega
      omega
    refine ⟨⟨g,j,none⟩,cur[j],by simp [bu,ld],by rw [ij h3];exact Array.getElem?_eq_getElem cF,by simp [World.frozen?,h3],?_⟩
    refine ⟨⟨fun c hc=>?_,by simp [dn,row,Value.ownBlock]⟩,⟨rfl,rfl,rfl,by simp [World.setCell],fun k hk hs=>?_⟩,fun g' hg=>?_⟩
    · simp only [List.mem_singleton] at hc;subst hc
      refine ⟨by simpa using h1,.inr ⟨g,cap,cur.setIfInBounds j u,rfl,Nat.zero_le _,by simp [World.setCell,Array.getElem?_modify,h3],h4,h5,by simp [h6],?_⟩⟩
      rw [←h7]
      simp only [Array.toList_setIfInBounds]
      have hjn:j<n*sz:=by omega
      apply List.ext_getElem?
      intro i
      simp only [List.getElem?_take,List.getElem?_set,List.length_take]
      by_cases hi:i<n*sz
      · by_cases cD:j=i
        · subst cD;simp [hi,cF];omega
        · simp [hi,cD]
      · have:j≠i:=by omega
        simp [hi,this]
    · exact RowKit.Below.heap_setCell _ _ _ _ (by intro e';subst e';simp [dn,row,Value.ownBlock] at hs)
    · left;simpa [dn,row] using hg
theorem Dk {t:TypeId} {x y:Operand} {v:Value} {e:TypeId} {j sz n b:Nat} {vs:List Value} {z:Option Value} {u:Value} (hs:bX P t=some (1,b,z)) (hx:ev Γ x=some (bu v j)) (hy:ev Γ y=some u) (h1:u.oneCell'=true)
    (ho:w.ownsRow 0 e sz v n vs) (hj:j<vs.length) (k:∀w',ax w [row v e sz n vs] w' [row v e sz n (vs.set j u)]→K undef w'):aq P Γ w (.store t x y) ty K:=by
  obtain ⟨ad,yB,he,hc,hf,hu⟩:=Pe ho hj u
  exact HP hs (he▸hx) hy h1 hc hf (k _ hu)
theorem Gr {k:IntKind} {x:Int} (h:(if k.signed then-(2^(k.bits-1):Int) else 0)≤x∧x≤k.max):k.wrap x=x:=by
  cases k<;>simp only [IntKind.signed,IntKind.bits,IntKind.max,IntKind.wrap,if_true,Bool.false_eq_true,if_false,Bool.true_and,Bool.false_and] at* <;>(try split)<;>simp_all<;>omega
theorem wrap_i64 {x:Int} (h: -9223372036854775808≤x) (h':x≤9223372036854775807):IntKind.i64.wrap x=x:=Gr (by simpa [IntKind.signed,IntKind.bits,IntKind.max] using ⟨h,h'⟩)
theorem k5 {op:BinOp} {xt yt:TypeId} {x y:Operand} {kd:IntKind} {a b:Int} (r:Int) (hx:ev Γ x=some (.int kd a)) (hy:ev Γ y=some (.int kd b))
    (hr:(match op with| .add=>some (kd.wrap (a+b))| .sub=>some (kd.wrap (a-b))| .mul=>some (kd.wrap (a*b))|_=>none)=some r) (k:K (.int kd r) w):aq P Γ w (.binOp op xt x y yt) ty K:=
  aq.of_run (fun ρ hρ=>by
    cases op<;>simp only [reduceCtorEq,Option.some.injEq] at hr<;>subst hr<;>
    simp [ex,execOp,hρ x _ hx,hρ y _ hy,eqGuard,binOp,Op.intArith]) k
theorem YX {xt yt:TypeId} {x y:Operand} {a b:Int} (hx:ev Γ x=some (.int .i64 a)) (hy:ev Γ y=some (.int .i64 b)) (h: -9223372036854775808≤a+b) (h':a+b≤9223372036854775807) (k:K (.int .i64 (a+b)) w):aq P Γ w (.binOp .add xt x y yt) ty K:=
  k5 (a+b) hx hy (by rw [wrap_i64 h h']) k
theorem YT {xt yt:TypeId} {x y:Operand} {a b:Int} (hx:ev Γ x=some (.int .i64 a)) (hy:ev Γ y=some (.int .i64 b)) (h: -9223372036854775808≤a-b) (h':a-b≤9223372036854775807) (k:K (.int .i64 (a-b)) w):aq P Γ w (.binOp .sub xt x y yt) ty K:=
  k5 (a-b) hx hy (by rw [wrap_i64 h h']) k
theorem YV {xt yt:TypeId} {x y:Operand} {a b:Int} (hx:ev Γ x=some (.int .i64 a)) (hy:ev Γ y=some (.int .i64 b)) (h: -9223372036854775808≤a*b) (h':a*b≤9223372036854775807) (k:K (.int .i64 (a*b)) w):aq P Γ w (.binOp .mul xt x y yt) ty K:=
  k5 (a*b) hx hy (by rw [wrap_i64 h h']) k
def HX:BinOp→Int→Int→Option Bool
  | .eql,a,b=>some (decide (a=b))
  | .neq,a,b=>some (decide (a≠b))
  | .lss,a,b=>some (decide (a<b))
  | .leq,a,b=>some (decide (a≤b))
  | .gtr,a,b=>some (decide (a>b))
  | .geq,a,b=>some (decide (a≥b))
  | _,_,_=>none
theorem ND {op:BinOp} {xt yt:TypeId} {x y:Operand} {kd:IntKind} {a b:Int} (r:Bool) (hx:ev Γ x=some (.int kd a)) (hy:ev Γ y=some (.int kd b)) (hr:HX op a b=some r) (k:K (.bool r) w):aq P Γ w (.binOp op xt x y yt) ty K:=
  aq.of_run (fun ρ hρ=>by
    cases op<;>simp only [HX,reduceCtorEq,Option.some.injEq] at hr<;>subst hr<;>
    simp [ex,execOp,hρ x _ hx,hρ y _ hy,eqGuard,binOp,Op.intCmp]<;>(try (by_cases h:a=b<;>simp [h]))) k
theorem toList_inj {a b:ByteArray} :(a.toList==b.toList)=decide (a=b):=by
  by_cases h:a=b
  · subst h;simp
  · have:a.toList≠b.toList:=fun e=>h (by
      have h2:a.data.toList=b.data.toList:=by rw [←ByteArray.toList_eq,←ByteArray.toList_eq,e]
      cases a;cases b;simp only [ByteArray.mk.injEq];exact Array.ext' h2)
    simp [h,this]
theorem Qo {xt yt:TypeId} {x y:Operand} {a b:ByteArray} (hx:ev Γ x=some (.string a)) (hy:ev Γ y=some (.string b)) (k:K (.bool (decide (a=b))) w):aq P Γ w (.binOp .eql xt x y yt) ty K:=
  aq.of_run (fun ρ hρ=>by simp [ex,execOp,hρ x _ hx,hρ y _ hy,eqGuard,binOp,Op.stringOp,toList_inj]) k
theorem Qn {xt yt:TypeId} {x y:Operand} {a b:ByteArray} (hx:ev Γ x=some (.string a)) (hy:ev Γ y=some (.string b)) (k:K (.bool (decide (a≠b))) w):aq P Γ w (.binOp .neq xt x y yt) ty K:=
  aq.of_run (fun ρ hρ=>by simp [ex,execOp,hρ x _ hx,hρ y _ hy,eqGuard,binOp,Op.stringOp,toList_inj]) k
theorem NC {xt yt:TypeId} {x y:Operand} {a b:ByteArray} (hx:ev Γ x=some (.string a)) (hy:ev Γ y=some (.string b)) (h:a.size+b.size≤9223372036854775807) (k:K (.string (a++b)) w):aq P Γ w (.binOp .add xt x y yt) ty K:=
  aq.of_run (fun ρ hρ=>by
    have:¬(((a.size+b.size:Nat):Int)>IntKind.i64.max):=by simp [IntKind.max,IntKind.signed,IntKind.bits];omega
    simp only [ex,execOp,hρ x _ hx,hρ y _ hy,eqGuard,binOp,Op.stringOp,if_neg this]
    simp) k
theorem run_equal_bool {t:TypeId} (ht:P.underlying t=some .bool) (a b:Bool) (d:Nat):(Op.equalIn (d+1) t (.bool a) (.bool b)).run P w= .ok (a==b) w:=by
  simp [Op.equalIn,run_underlying ht]
theorem xx {t e:TypeId} (ht:P.underlying t=some (.slice e)) (a:aP) (n c d:Nat):(Op.equalIn (d+1) t (.slice a n c) (.slice none 0 0)).run P w= .ok (decide (a=none)) w:=by
  cases a<;>simp [Op.equalIn,run_underlying ht]
theorem yv {t:TypeId} {x y:Value} {r:Bool} (h:∀d,(Op.equalIn (d+1) t x y).run P w= .ok r w):(Op.equal t x y).run P w= .ok r w:=h 9999
theorem oA {xt yt:TypeId} {x y:Operand} {a b:Bool} (ht:P.underlying xt=some .bool) (hx:ev Γ x=some (.bool a)) (hy:ev Γ y=some (.bool b)) (k:K (.bool (decide (a≠b))) w):aq P Γ w (.binOp .neq xt x y yt) ty K:=
  aq.of_run (fun ρ hρ=>by
    have:=yv (w:=w) (fun d=>run_equal_bool (w:=w) ht a b d)
    simp [ex,execOp,hρ x _ hx,hρ y _ hy,eqGuard,binOp,this];cases a<;>cases b<;>rfl) k
theorem wE {xt yt e:TypeId} {x:Operand} {a:aP} {n c:Nat} (ht:P.underlying xt=some (.slice e)) (hx:ev Γ x=some (.slice a n c)) (k:K (.bool (decide (a=none))) w):aq P Γ w (.binOp .eql xt x (.const (.slice none 0 0)) yt) ty K:=
  aq.of_run (fun ρ hρ=>by
    have hc:ρ (.const (.slice none 0 0))= .slice none 0 0:=hρ _ _ rfl
    have:=yv (w:=w) (fun d=>xx (w:=w) ht a n c d)
    simp [ex,execOp,hρ x _ hx,hc,eqGuard,binOp,this]) k
theorem Uq {xt:TypeId} {x:Operand} {b:Bool} (hx:ev Γ x=some (.bool b)) (k:K (.bool (!b)) w):aq P Γ w (.unOp .not xt x) ty K:=
  aq.of_run (fun ρ hρ=>by simp [ex,execOp,hρ x _ hx,Op.unary]) k
theorem Nq {xt yt:TypeId} {x y:Operand} {a b:Int} (hx:ev Γ x=some (.int .i64 a)) (hy:ev Γ y=some (.int .i64 b)) (h0:0≤a) (hb:0<b) (h':a≤9223372036854775807) (k:K (.int .i64 (a/b)) w):aq P Γ w (.binOp .quo xt x y yt) ty K:=
  aq.of_run (fun ρ hρ=>by
    have h1:a.tdiv b=a/b:=Int.tdiv_eq_ediv_of_nonneg h0
    have h2:0≤a/b:=Int.ediv_nonneg h0 oz
    have h3:a/b≤a:=Int.ediv_le_self _ h0
    have Be:b≠0:=by omega
    simp [ex,execOp,hρ x _ hx,hρ y _ hy,eqGuard,binOp,Op.intDiv,Be,h1,wrap_i64 (x:=a/b) oz oz]) k
theorem YU {xt yt:TypeId} {x y:Operand} {kd:IntKind} {a b:Int} (hx:ev Γ x=some (.int kd a)) (hy:ev Γ y=some (.int kd b)) (hb:b≠0) (k:K (.int kd (a.tmod b)) w):aq P Γ w (.binOp .rem xt x y yt) ty K:=
  aq.of_run (fun ρ hρ=>by simp [ex,execOp,hρ x _ hx,hρ y _ hy,eqGuard,binOp,Op.intDiv,hb]) k
theorem Np {xt yt:TypeId} {x y:Operand} {kd:IntKind} {a b:Int} (hx:ev Γ x=some (.int kd a)) (hy:ev Γ y=some (.int kd b)) (h0:0≤a) (hb:0<b) (k:K (.int kd (a%b)) w):aq P Γ w (.binOp .rem xt x y yt) ty K:=
  YU hx hy oz (by rw [Int.tmod_eq_emod_of_nonneg h0];exact k)
theorem sR {op:BinOp} {xt yt:TypeId} {x y:Operand} {kd:IntKind} {a b:Int} (r:Int) (hx:ev Γ x=some (.int kd a)) (hy:ev Γ y=some (.int kd b))
    (hr:(match op with
      | .and=>some (kd.wrap (BitVec.ofInt kd.bits a&&&BitVec.ofInt kd.bits b).toNat)
      | .or=>some (kd.wrap (BitVec.ofInt kd.bits a|||BitVec.ofInt kd.bits b).toNat)
      | .xor=>some (kd.wrap (BitVec.ofInt kd.bits a^^^BitVec.ofInt kd.bits b).toNat)
      | .andNot=>some (kd.wrap (BitVec.ofInt kd.bits a&&& ~~~BitVec.ofInt kd.bits b).toNat)
      | _=>none)=some r) (k:K (.int kd r) w):aq P Γ w (.binOp op xt x y yt) ty K:=
  aq.of_run (fun ρ hρ=>by
    cases op<;>simp only [reduceCtorEq,Option.some.injEq] at hr<;>subst hr<;>
    simp [ex,execOp,hρ x _ hx,hρ y _ hy,eqGuard,binOp,Op.intBits]) k
theorem R0 {xt yt:TypeId} {x y:Operand} {kd ky:IntKind} {a b:Int} (hx:ev Γ x=some (.int kd a)) (hy:ev Γ y=some (.int ky b)) (hb:0≤b) (k:K (.int kd (kd.wrap (a*2^(min b.toNat kd.bits)))) w):aq P Γ w (.binOp .shl xt x y yt) ty K:=
  aq.of_run (fun ρ hρ=>by
    have:¬b<0:=by omega
    simp [ex,execOp,hρ x _ hx,hρ y _ hy,eqGuard,binOp,Op.shift,this]) k
theorem No {xt yt:TypeId} {x y:Operand} {kd ky:IntKind} {a b:Int} (hx:ev Γ x=some (.int kd a)) (hy:ev Γ y=some (.int ky b)) (hb:0≤b) (k:K (.int kd (a.fdiv (2^(min b.toNat kd.bits)))) w):aq P Γ w (.binOp .shr xt x y yt) ty K:=
  aq.of_run (fun ρ hρ=>by
    have:¬b<0:=by omega
    simp [ex,execOp,hρ x _ hx,hρ y _ hy,eqGuard,binOp,Op.shift,this]) k
theorem FT {src dst:TypeId} {x:Operand} {kd ks:IntKind} {ds:TypeDesc} {a:Int} (hs:P.underlying src=some ds) (hd:P.underlying dst=some (.int kd)) (hx:ev Γ x=some (.int ks a)) (k:K (.int kd (kd.wrap a)) w):aq P Γ w (.convert src dst x) ty K:=
  aq.of_run (fun ρ hρ=>by simp [ex,execOp,hρ x _ hx,convert,run_underlying hs,run_underlying hd,Conv.intToInt]) k
theorem Qr {src dst:TypeId} {x:Operand} {kd ks:IntKind} {ds:TypeDesc} {a:Int} (hs:P.underlying src=some ds) (hd:P.underlying dst=some (.int kd)) (hx:ev Γ x=some (.int ks a)) (h:(if kd.signed then-(2^(kd.bits-1):Int) else 0)≤a∧a≤kd.max) (k:K (.int kd a) w):aq P Γ w (.convert src dst x) ty K:=
  FT hs hd hx (by rw [Gr h];exact k)
theorem Us {x:Operand} {t e:TypeId} {a:aP} {n c:Nat} (ht:P.underlying t=some (.slice e)) (hx:ev Γ x=some (.slice a n c)) (k:K (.int .i64 n) w):aq P Γ w (.call { callee:= .builtin .len,args:= #[x],argTypes:= #[t] }) ty K:=
  aq.of_run (fun ρ hρ=>by simp [ex,execOp,hρ x _ hx,resolve,invoke,builtin,Builtin.len_,run_underlying ht,goInt]) k
theorem Nv {x:Operand} {t:TypeId} {s:ByteArray} (ht:P.underlying t=some .string) (hx:ev Γ x=some (.string s)) (k:K (.int .i64 s.size) w):aq P Γ w (.call { callee:= .builtin .len,args:= #[x],argTypes:= #[t] }) ty K:=
  aq.of_run (fun ρ hρ=>by simp [ex,execOp,hρ x _ hx,resolve,invoke,builtin,Builtin.len_,run_underlying ht,goInt]) k
theorem Ny {t:TypeId} {x ix:Operand} {s:ByteArray} {kd:IntKind} {i:Int} (ht:P.underlying t=some .string) (hx:ev Γ x=some (.string s)) (hi:ev Γ ix=some (.int kd i)) (h0:0≤i) (h1:i.toNat<s.size) (k:K (.int .u8 (s[i.toNat]'h1).toNat) w):aq P Γ w (.index t x ix) ty K:=
  aq.of_run (fun ρ hρ=>by
    simp only [ex,execOp,hρ x _ hx,hρ ix _ hi,Instr.index,asIntOf]
    simp [run_underlying ht,h0,h1]) k
theorem NA {t e:TypeId} {x ix:Operand} {cs:Array Value} {len b:Nat} {d:TypeDesc} {z:Option Value} {kd:IntKind} {i:Int} {v:Value} (ht:P.underlying t=some (.array len e)) (he:P.underlying e=some d) (hd:kP d=false) (hs:bX P e=some (1,b,z)) (hx:ev Γ x=some (.agg cs)) (hi:ev Γ ix=some (.int kd i))
    (h0:0≤i) (h1:i<len) (hv:cs[i.toNat]?=some v) (k:K v w):aq P Γ w (.index t x ix) ty K:=
  aq.of_run (fun ρ hρ=>by
    simp only [ex,execOp,hρ x _ hx,hρ ix _ hi,Instr.index,asIntOf,part]
    simp [run_underlying ht,kf hs,jW he,hd,h0,h1,hv]) k
theorem rJ {t e:TypeId} {x ix:Operand} {ad:Addr} {len sz b:Nat} {z:Option Value} {kd:IntKind} {i:Int} (ht:P.underlying t=some (.array len e)) (hs:bX P e=some (sz,b,z)) (hx:ev Γ x=some (.pointer (some ad))) (hi:ev Γ ix=some (.int kd i))
    (h0:0≤i) (h1:i<len) (k:K (.pointer (some (ad.add (i.toNat*sz)))) w):aq P Γ w (.indexAddr t x ix) ty K:=
  aq.of_run (fun ρ hρ=>by
    simp only [ex,execOp,hρ x _ hx,hρ ix _ hi,Instr.indexAt,asIntOf,Instr.sureAddr]
    simp [run_underlying ht,kf hs,h0,h1]) k
def QQ (lo hi cap:Int):Prop:=0≤lo∧lo≤hi∧hi≤cap
theorem ni {b:Bool} {len cap:Nat} {lo hi:Option Value} {l h:Int} (Ao:lo=none∧l=0∨∃kd,lo=some (.int kd l)) (JP:hi=none∧h=len∨∃kd,hi=some (.int kd h)) (hk:QQ l h cap):
    (Instr.sliceBounds b len cap lo hi none).run P w= .ok (l.toNat,h.toNat,cap) w:=by
  obtain ⟨h1,h2,h3⟩:=hk
  have e1:0≤h:=by omega
  have e2:(l:Int)≤((h.toNat:Nat):Int):=by omega
  rcases Ao with ⟨rfl,rfl⟩|⟨kd,rfl⟩<;>rcases JP with ⟨rfl,rfl⟩|⟨kd',rfl⟩
  · simp [Instr.sliceBounds]
  · simp [Instr.sliceBounds,Instr.sliceBound,asIntOf,e1,h3]
  · simp [Instr.sliceBounds,Instr.sliceBound,asIntOf,h1,h2]
  · have:l≤max h 0:=by omega
    simp [Instr.sliceBounds,Instr.sliceBound,asIntOf,e1,h1,h3,this]
def Dc (Γ:Env):Option Operand→Option (Option Value)
  | none=>some none
  | some x=>(ev Γ x).map some
theorem Ku.Dc {ρ:Operand→Value} (h:Ku ρ Γ) {x:Option Operand} {v:Option Value} (e:Dc Γ x=some v):x.map ρ=v:=by
  cases x with
  | none=>simp [Sx.Dc] at e;simp [e]
  | some x=>
    simp only [Sx.Dc] at e
    cases hv:ev Γ x with
    | none=>rw [hv] at e;simp at e
    | some u=>rw [hv] at e;simp at e;simp [h x u hv,e]
theorem Nn {t:TypeId} {x:Operand} {lo hi:Option Operand} {KP KQ:Option Value} {s:ByteArray} (l h:Int) (ht:P.underlying t=some .string) (hx:ev Γ x=some (.string s)) (Ao:Dc Γ lo=some KP) (JP:Dc Γ hi=some KQ)
    (el:KP=none∧l=0∨∃kd,KP=some (.int kd l)) (eh:KQ=none∧h=s.size∨∃kd,KQ=some (.int kd h)) (hk:QQ l h s.size) (k:K (.string (s.extract l.toNat h.toNat)) w):aq P Γ w (.slice t x lo hi none) ty K:=
  aq.of_run (fun ρ hρ=>by
    simp only [ex,execOp,hρ x _ hx,hρ.Dc Ao,hρ.Dc JP,Instr.sliceAt,Instr.slice,Option.map_none]
    simp [run_underlying ht,ni (P:=P) (w:=w) (b:=false) el eh hk]) k
def dR (v:Value) (sz:Nat) (l h:Nat):Value:=
  match v with
  | .slice a _ c=> .slice (if c=l then a else a.map (·.add (l*sz))) (h-l) (c-l)
  | v=>v
theorem AB {t e:TypeId} {x:Operand} {lo hi:Option Operand} {KP KQ:Option Value} {A:aP} {n c sz b:Nat} {z:Option Value} (l h:Int) (ht:P.underlying t=some (.slice e)) (hs:bX P e=some (sz,b,z)) (hx:ev Γ x=some (.slice A n c)) (Ao:Dc Γ lo=some KP) (JP:Dc Γ hi=some KQ)
    (el:KP=none∧l=0∨∃kd,KP=some (.int kd l)) (eh:KQ=none∧h=n∨∃kd,KQ=some (.int kd h)) (hk:QQ l h c) (k:K (dR (.slice A n c) sz l.toNat h.toNat) w):aq P Γ w (.slice t x lo hi none) ty K:=
  aq.of_run (fun ρ hρ=>by
    simp only [ex,execOp,hρ x _ hx,hρ.Dc Ao,hρ.Dc JP,Instr.sliceAt,Instr.slice,Option.map_none]
    simp [run_underlying ht,kf hs,ni (P:=P) (w:=w) (b:=true) el eh hk,dR]) k
theorem uC {ρ:Operand→Value} {xs:Array Operand} {vs:List Value} (hρ:Ku ρ Γ) (hx:J0 Γ xs.toList=some vs):xs.map ρ=vs.toArray:=by
  have:=hρ.J0 _ _ hx
  rw [←this,←Array.toList_map]
def fQ (P:Program) (f:FuncId):Prop:=∀args w,(callFunc f args).run P w= .ok (.enter f args) w
theorem qy {f:FuncId} {fn:Func} (hf:P.funcs[f]?=some fn) (hn:(fn.name== "runtime.NumGoroutine")=false) (hb:fn.body.isNone=false):fQ P f:=by
  intro args w
  have KE:¬(fn.name= "runtime.NumGoroutine"):=by simpa using hn
  have Be:¬(fn.body=none):=by cases h:fn.body<;>simp [h] at hb ⊢
  simp [callFunc,hf,KE,Be]
theorem Uu {f:FuncId} {xs:Array Operand} {ts:Array TypeId} {vs:List Value} (hc:fQ P f) (hx:J0 Γ xs.toList=some vs) (h:Calls P f vs.toArray w (aX K)):aq P Γ w (.call { callee:= .value (.func f),args:=xs,argTypes:=ts }) ty K:=by
  intro ρ hρ
  have h1:ρ (.func f)= .func (.func f) #[] #[]:=hρ _ _ rfl
  have h2:xs.map ρ=vs.toArray:=uC hρ hx
  simp only [ex,execOp,resolve,h1,h2,Deferred.ofValue]
  have:=hc vs.toArray w
  simp [invoke,this]
  exact h
theorem jO {f:FuncId} {g:Operand} {first F9:Array Value} {xs:Array Operand} {ts:Array TypeId} {vs:List Value} (hc:fQ P f) (hg:ev Γ g=some (.func (.func f) first F9)) (hx:J0 Γ xs.toList=some vs)
    (h:Calls P f (first++vs.toArray++F9) w (aX K)):aq P Γ w (.call { callee:= .value g,args:=xs,argTypes:=ts }) ty K:=by
  intro ρ hρ
  have h1:=hρ _ _ hg
  have h2:xs.map ρ=vs.toArray:=uC hρ hx
  simp only [ex,execOp,resolve,h1,h2,Deferred.ofValue]
  have:=hc (first++vs.toArray++F9) w
  simp only [Array.append_assoc] at this
  simp [invoke,this]
  simpa using h
theorem mS {fn:Fn} {first F9:Array Operand} {fs cs:List Value} (h1:J0 Γ first.toList=some fs) (h2:J0 Γ F9.toList=some cs) (k:K (.func fn fs.toArray cs.toArray) w):aq P Γ w (.makeFunc fn first F9) ty K:=
  aq.of_run (fun ρ hρ=>by
    have e1:first.map ρ=fs.toArray:=uC hρ h1
    have e2:F9.map ρ=cs.toArray:=uC hρ h2
    simp [ex,execOp,e1,e2,Instr.makeFunc]) k
theorem YW {e:TypeId} {x:Operand} {v:Value} (hx:ev Γ x=some v) (k:∀w',ax w [] w' [aQ w.heap.size v.cells e]→K (.pointer (some ⟨w.heap.size,0,none⟩)) w'):aq P Γ w (.box e x) ty K:=
  aq.of_run (w':=w.alloc (.cells v.cells e)) (fun ρ hρ=>by simp [ex,execOp,hρ x _ hx,Instr.box,newVar,newRow,newObj,Sem.run]) (k _ (ax.alloc w _ e))
theorem Qx {e:TypeId} {s b:Nat} {z:Value} (hs:bX P e=some (s,b,some z)) (k:∀w',ax w [] w' [aQ w.heap.size z.cells e]→K (.pointer (some ⟨w.heap.size,0,none⟩)) w'):aq P Γ w (.alloc e) ty K:=
  aq.of_run (w':=w.alloc (.cells z.cells e)) (fun ρ hρ=>by simp [ex,execOp,Instr.alloc,qQ hs,newVar,newRow,newObj,Sem.run]) (k _ (ax.alloc w _ e))
end
def J1 (Γ:Env):List (Nat×Operand)→Option (List (Nat×Value))
  | []=>some []
  | (i,x)::r=>match ev Γ x,J1 Γ r with|some v,some l=>some ((i,v)::l)|_,_=>none
theorem Ku.J1 {ρ:Operand→Value} {Γ:Env} (h:Ku ρ Γ):∀(l:List (Nat×Operand)) (vs:List (Nat×Value)),Sx.J1 Γ l=some vs→(l.map fun p=>(p.1,ρ p.2))=vs
  | [],vs,e=>by simp [Sx.J1] at e;simp [e]
  | (i,x)::r,vs,e=>by
    simp only [Sx.J1] at e
    split at e
    · rename_i v l hv hl
      simp only [Option.some.injEq] at e
      subst e
      simp [h x v hv,h.J1 r l hl]
    · cases e
section
variable {P:Program} {Γ:Env} {w:World} {ty:TypeId} {K:Value→World→Prop}
theorem Qw {t:TypeId} {ps:Array (Nat×Operand)} {vs:List (Nat×Value)} {cs:Array Value} (hp:J1 Γ ps.toList=some vs) (hb:P.built t vs=some cs) (k:K (.agg cs) w):aq P Γ w (.build t ps) ty K:=
  aq.of_run (fun ρ hρ=>by
    have e:(ps.map fun (i,x)=>(i,ρ x)).toList=vs:=by rw [←hρ.J1 _ _ hp];simp
    simp only [ex,execOp,Sem.run_bind,run_build w t _ cs (by rw [e];exact hb),Result.andThen_ok]
    rfl) k
theorem Ca {g:Nat} {cs:Array Value} {e:TypeId} {sz n:Nat} {w':World} (h:ax w [] w' [aQ g cs e]) (hs:cs.size=n*sz) (hn:n≤9223372036854775807):ax w [] w' [row (.slice (some ⟨g,0,none⟩) n n) e sz n cs.toList]:=by
  have hb:=h.hp.aQ (g:=g) (cs:=cs) (e:=e) (by simp)
  have ho:w'.ownsRow 0 e sz (.slice (some ⟨g,0,none⟩) n n) n cs.toList:=
    ⟨by simp [hs],.inr ⟨g,n,cs,rfl,Nat.zero_le _,hb,Nat.le_refl _,by simp [maxLen];omega,hs,by rw [List.take_of_length_le];simp [hs]⟩⟩
  refine ⟨⟨fun c hc=>?_,by simp [dn,row,Value.ownBlock]⟩,h.keep,fun g' hg=>h.fresh g' (by simpa [dn,row,aQ,Value.ownBlock] using hg)⟩
  simp only [List.mem_singleton] at hc
  subst hc
  exact oW ho
theorem AJ {t e:TypeId} {len sz b:Nat} {z:Value} {ps:Array (Nat×Operand)} {vs:List (Nat×Value)} {cs:Array Value} (ht:P.underlying t=some (.slice e)) (hs:bX P e=some (sz,b,some z)) (hp:J1 Γ ps.toList=some vs)
    (sG:Nat.ble (len*sz) 16777216=true) (An:Nat.beq (len*sz) 0=false)
    (hf:Instr.fill (fun i=>some (i*sz,sz)) ((Array.range (len*sz)).map (z.cells[· %z.cells.size]!)) vs=some cs) (VP:cs.size=len*sz)
    (k:∀w',ax w [] w' [row (.slice (some ⟨w.heap.size,0,none⟩) len len) e sz len cs.toList]→K (.slice (some ⟨w.heap.size,0,none⟩) len len) w'):aq P Γ w (.buildSlice t len ps) ty K:=
  aq.of_run (w':=w.alloc (.cells cs e)) (fun ρ hρ=>by
    have e1:(ps.map fun (i,x)=>(i,ρ x)).toList=vs:=by rw [←hρ.J1 _ _ hp];simp
    have h1:¬(16777216<len*sz):=by have:=Nat.le_of_ble_eq_true sG;omega
    have h2:len*sz≠0:=by intro h;rw [h] at An;simp at An
    simp only [ex,execOp,Instr.buildSlice,e1]
    simp [run_underlying ht,kf hs,qQ hs,h1,hf,newRow,newObj,Sem.run,h2]) (k _ (Ca (ax.alloc w cs e) VP (by
      have:=Nat.le_of_ble_eq_true sG
      have h2:0<sz:=by
        rcases Nat.eq_zero_or_pos sz with h|h
        · rw [h] at An;simp at An
        · exact h
      have:=Nat.le_mul_of_pos_right len h2
      omega)))
theorem xO {t e:TypeId} {sz b:Nat} {z:Option Value} (ht:P.underlying t=some (.slice e)) (hs:bX P e=some (sz,b,z))
    (k:∀w',ax w [] w' [row (.slice (some ⟨w.heap.size,0,none⟩) 0 0) e sz 0 []]→K (.slice (some ⟨w.heap.size,0,none⟩) 0 0) w'):aq P Γ w (.buildSlice t 0 #[]) ty K:=
  aq.of_run (w':=w.alloc (.cells #[] e)) (fun ρ hρ=>by
    simp only [ex,execOp,Instr.buildSlice]
    have h0:∀f:Nat→Value,(Array.range 0).map f= #[]:=fun f=>by simp
    simp [run_underlying ht,kf hs,newRow,newObj,Sem.run,Instr.fill,h0]) (k _ (by simpa using Ca (n:=0) (sz:=sz) (ax.alloc w #[] e) (by simp) oz))
theorem Ns {t e:TypeId} {x y:Operand} {kx ky:IntKind} {sz b:Nat} {z:Value} {l c:Int} (ht:P.underlying t=some (.slice e)) (hs:bX P e=some (sz,b,some z)) (hx:ev Γ x=some (.int kx l)) (hy:ev Γ y=some (.int ky c))
    (h0:0≤l) (hlc:l≤c) (hb:(b:Int)*c≤140737488355328) (hc:c≤9223372036854775807)
    (k:∀w',ax w [] w' [row (.slice (some ⟨w.heap.size,0,none⟩) l.toNat c.toNat) e sz l.toNat ((madeCells z.cells (c.toNat*sz)).toList.take (l.toNat*sz))]→K (.slice (some ⟨w.heap.size,0,none⟩) l.toNat c.toNat) w'):aq P Γ w (.makeSlice t x y) ty K:=by
  obtain ⟨i,hi,rfl,rfl,hz⟩:=lI hs
  refine aq.of_run (w':=w.alloc (.cells (madeCells z.cells (c.toNat*i.size)) e)) (fun ρ hρ=>?_) (k _ ?_)
  · simp only [ex,execOp,hρ x _ hx,hρ y _ hy,Sem.run_bind,run_make (P:=P) w t e i z ht hi hz kx ky l c h0 hlc oz hc,Result.andThen_ok]
    rfl
  · have hu:=ax.alloc w (madeCells z.cells (c.toNat*i.size)) e
    have Hz:=hu.hp.aQ (g:=w.heap.size) (cs:=madeCells z.cells (c.toNat*i.size)) (e:=e) (by simp)
    have hle:l.toNat*i.size≤c.toNat*i.size:=Nat.mul_le_mul_right _ oz
    have ho:(w.alloc (.cells (madeCells z.cells (c.toNat*i.size)) e)).ownsRow 0 e i.size (.slice (some ⟨w.heap.size,0,none⟩) l.toNat c.toNat) l.toNat ((madeCells z.cells (c.toNat*i.size)).toList.take (l.toNat*i.size)):=
      ⟨by rw [List.length_take,Array.length_toList,size_madeCells];exact Nat.min_eq_left hle,.inr ⟨w.heap.size,c.toNat,_,rfl,Nat.zero_le _,Hz,by omega,by simp [maxLen];omega,size_madeCells _ _,rfl⟩⟩
    refine ⟨⟨fun c' D6=>?_,by simp [dn,row,Value.ownBlock]⟩,hu.keep,fun g' hg=>hu.fresh g' (by simpa [dn,row,aQ,Value.ownBlock] using hg)⟩
    simp only [List.mem_singleton] at D6
    subst D6
    exact oW ho
theorem zp {v v':Value} {e:TypeId} {sz n n':Nat} {vs vs':List Value} {w':World} (h:w'.ownsRow 0 e sz v' n' vs') (hg:w.grownBy w' v.ownBlock) (hb:v'.ownBlock=v.ownBlock∨v'.ownBlock=some w.heap.size):ax w [row v e sz n vs] w' [row v' e sz n' vs']:=by
  refine ⟨⟨fun c hc=>?_,?_⟩,⟨hg.os,hg.tape,hg.output,hg.size,fun k hk hs=>hg.block k hk ?_⟩,fun g MQ=>?_⟩
  · simp only [List.mem_singleton] at hc;subst hc;exact oW h
  · cases hv:v'.ownBlock<;>simp [dn,row,hv]
  · intro e';apply hs;simp [dn,row,←e']
  · have:v'.ownBlock=some g:=by
      cases hv:v'.ownBlock<;>simp [dn,row,hv] at MQ
      rw [MQ]
    rcases hb with h1|h1
    · left;rw [this] at h1;simp [dn,row,←h1]
    · right;rw [this] at h1;injection h1 with h1;omega
theorem tY {t xt e:TypeId} {i:TypeInfo} {a A:aP} {n c c':Nat} (ht:P.underlying t=some (.slice e)) (hxt:P.underlying xt=some (.slice e)) (hi:P.info? e=some i) (hn:n≤c):(Builtin.append_ #[t,xt] ty #[.slice a n c,.slice A 0 c']).run P w= .ok (.slice a n c) w:=by
  have hf:(Builtin.firstCells i.size 0 (.slice A 0 c')).run P w= .ok #[] w:=by
    cases A<;>simp [Builtin.firstCells,loadCells,loadCellsFrom]
  have hm:(match (TypeDesc.slice e) with| .int _=>true|_=>false)=false:=rfl
  cases a<;>simp [Builtin.append_,run_underlying ht,run_underlying hxt,sizeOf,typeInfo,hi,Builtin.lenOf,hn,hf,storeCells]
theorem NG {s x:Operand} {t e:TypeId} {sz b n m c cx:Nat} {z:Value} {a A:aP} {vs news:List Value} (ht:P.underlying t=some (.slice e)) (hs:bX P e=some (sz,b,some z)) (Oy:z.cells.size=sz) (Bc:Nat.blt 0 sz=true)
    (RN:ev Γ s=some (.slice a n c)) (hx:ev Γ x=some (.slice A m cx)) (ho:w.ownsRow 0 e sz (.slice a n c) n vs) (hr:Rd w (.slice A m cx) sz m news) (h1:∀u∈news,u.oneCell'=true) (hb:(n+m)*b≤140737488355328) (kW:n+m≤9223372036854775807)
    (k:∀a' c' w',ax w [row (.slice a n c) e sz n vs] w' [row (.slice a' (n+m) c') e sz (n+m) (vs++news)]→K (.slice a' (n+m) c') w'):aq P Γ w (.call { callee:= .builtin .append,args:= #[s,x],argTypes:= #[t,t] }) ty K:=by
  obtain ⟨i,hi,rfl,rfl,hz⟩:=lI hs
  have Xv:0<i.size:=of_eq_true (Eq.trans Nat.blt_eq.symm (eq_true Bc))
  rcases Nat.eq_zero_or_pos m with rfl|hm
  · have hn:n≤c:=by
      rcases ho.2 with ⟨h1,h2⟩|⟨g,cap,cur,h1,_,_,h2,_⟩
      · omega
      · injection h1 with _ _ h1;omega
    have XN:news=[]:=by have:=hr.len;simp at this;exact this
    subst XN
    refine aq.of_run (w':=w) (fun ρ hρ=>?_) (k a c w ?_)
    · have:=tY (P:=P) (w:=w) (ty:=ty) (t:=t) (xt:=t) (a:=a) (A:=A) (n:=n) (c:=c) (c':=cx) ht ht hi hn
      simp only [ex,execOp,resolve,invoke,builtin,Sem.run_bind,Sem.run_pure,Result.andThen_ok,List.map_toArray,List.map_cons,List.map_nil,hρ s _ RN,hρ x _ hx,this]
      rfl
    · simp only [List.append_nil]
      refine ax.refl ⟨fun c' D6=>?_,?_⟩
      · simp only [List.mem_singleton] at D6;subst D6;exact oW ho
      · cases a<;>simp [dn,row,Value.ownBlock]
  · have hlen:0<news.length:=by rw [hr.len];exact Nat.mul_pos hm Xv
    obtain ⟨A',Y3,e',hl,_,yV⟩:=hr
    injection e' with e1 e2 e3
    subst e1 e3
    obtain ⟨ad,rfl,_⟩:=yV 0 _ (List.getElem?_eq_getElem hlen)
    obtain ⟨v',w',Ti,XH,hg,_,r9⟩:=run_append_own_at (P:=P) w 0 t ty e i z i.size i.bytes ht hi hz rfl rfl Oy Xv (.slice a n c) n vs ho ad m cx news hl (fun j u hj=>by
      obtain ⟨ad',e',hc⟩:=yV j u hj
      injection e' with e'
      subst e'
      exact hc) h1 (by simp [maxLen];omega) hb (Nat.zero_le _)
    obtain ⟨a',c',rfl⟩:=I1 XH
    refine aq.of_run (fun ρ hρ=>?_) (k a' c' w' (zp XH hg r9))
    simp only [ex,execOp,resolve,invoke,builtin,Sem.run_bind,Sem.run_pure,Result.andThen_ok,List.map_toArray,List.map_cons,List.map_nil,hρ s _ RN,hρ x _ hx,Ti]
end
structure pf where
  k:Nat
  v:Value
  C:World→Prop
section
variable (P:Program) (n:Nat) (ops:Array Oper)
def cL (k:Nat):List Nat:=match ops[k]? with|some o=>(o.after.toList.filter (Region.binds .any)).map (·.on)|none=>[]
def gu (k:Nat):Option Tmp:=(ops[k]?).bind (·.dst)
def looks (k:Nat):List Tmp:=match ops[k]? with|some o=>o.looksAt ops|none=>[]
def eT:Bool:=
  Region.noSelect ops&&
  (List.range ops.size).all fun k=>
    ((cL ops k).all fun i=>Nat.blt i k)&&
    (List.range ops.size).all fun i=>i==k||match gu ops i with
      | none=>true
      | some d=>gu ops k !=some d&&(!(looks ops k).contains d||(cL ops k).contains i||(cL ops i).contains k)
def QX (Γ:Env) (k:Nat) (v:Value) (w:World):Prop:=
  ∀a:Act,(∀t u,t∈looks ops k→look Γ t=some u→a.tmps.getD t undef=u)→∃o,ops[k]?=some o∧
    ((Region.wanted o (yielded ops a.tmps)=true∧∀next Q,next (a.put o.dst v) w→o.wp P a w next Q)∨(Region.wanted o (yielded ops a.tmps)=false∧v=undef))
structure Inv (T:List Nat) (Pn:List pf) (Γ:Env) (w:World) (listed:Array Bool) (a:Act):Prop where
  kU:listed.size=ops.size
  size:a.tmps.size=n
  defers:a.defers=[]
  k6:∀i,i∈T→∀j,j∈cL ops i→j∈T
  rL:∀i,listed.getD i false=true→∀j,j∈cL ops i→listed.getD j false=true
  taken:∀i,listed.getD i false=true→i∈T
  slot:∀t v,look Γ t=some v→(∀p,p∈Pn→listed.getD p.k false=false→gu ops p.k=some t→p.v=v)∧((∀p,p∈Pn→listed.getD p.k false=false→gu ops p.k≠some t)→a.tmps.getD t undef=v)
  LK:∀i,i∈T→listed.getD i false=false→∃p,p∈Pn∧p.k=i
  prom:∀p,p∈Pn→p.k∈T∧(listed.getD p.k false=false→p.C w∧(gu ops p.k).any (· <n)=true∧∃Γk,(∀w',p.C w'→QX P ops Γk p.k p.v w')∧
    ∀t u,t∈looks ops p.k→look Γk t=some u→(∀q,q∈Pn→listed.getD q.k false=false→gu ops q.k=some t→q.k∈cL ops p.k→q.v=u)∧((∀q,q∈Pn→listed.getD q.k false=false→q.k∈cL ops p.k→gu ops q.k≠some t)→a.tmps.getD t undef=u))
  one:∀p,p∈Pn→∀q,q∈Pn→p.k=q.k→p.v=q.v
def WD (Q:Exit→Act→World→Prop) (T:List Nat) (Pn:List pf) (Γ:Env) (w:World):Prop:=
  ∀fuel listed a,Inv P n ops T Pn Γ w listed a→((List.range ops.size).filter fun i=> !listed.getD i false).length≤fuel→wpAny P .any ops Q fuel listed a w
end
section
variable {P:Program} {n:Nat} {ops:Array Oper} {Q:Exit→Act→World→Prop} {T:List Nat} {Pn:List pf} {Γ:Env} {w:World} {listed:Array Bool} {a:Act}
theorem nW (h:eT ops=true):Region.noSelect ops=true:=by simp only [eT,Bool.and_eq_true] at h;exact h.1
theorem B0 (h:eT ops=true) {k i:Nat} (hk:k<ops.size) (hi:i∈cL ops k):i<k:=by
  simp only [eT,Bool.and_eq_true,List.all_eq_true,List.mem_range] at h
  exact of_eq_true (Eq.trans Nat.blt_eq.symm (eq_true ((h.2 k hk).1 i hi)))
theorem jY (h:eT ops=true) {k i d:Nat} (hk:k<ops.size) (hi:i<ops.size) (bm:i≠k) (hd:gu ops i=some d):gu ops k≠some d∧(d∈looks ops k→i∈cL ops k∨k∈cL ops i):=by
  simp only [eT,Bool.and_eq_true,List.all_eq_true,List.mem_range] at h
  have h1:=(h.2 k hk).2 i hi
  simp only [hd,Bool.or_eq_true,beq_iff_eq,bm,false_or,Bool.and_eq_true,bne_iff_ne,ne_eq,Bool.not_eq_true',List.contains_eq_mem,decide_eq_true_eq,decide_eq_false_iff_not] at h1
  exact ⟨h1.1,fun hm=>by rcases h1.2 with (h2|h2)|h2;exact absurd hm h2;exact .inl h2;exact .inr h2⟩
theorem wC {k d:Nat} (h:gu ops k=some d):k<ops.size:=by
  unfold gu at h
  rcases Nat.lt_or_ge k ops.size with h1|h1
  · exact h1
  · simp [Array.getElem?_eq_none h1] at h
theorem jZ (hl:listed.size=ops.size) {j:Nat} :j∈Region.ready .any ops listed↔j<ops.size∧listed.getD j false=false∧∀i,i∈cL ops j→listed.getD i false=true:=by
  rw [mem_ready]
  constructor
  · rintro ⟨h0,o,ho,jv⟩
    have hj:=(Array.getElem?_eq_some_iff.1 ho).1
    refine ⟨hj,?_,fun i hi=>?_⟩
    · rw [Array.getD_eq_getD_getElem?] at h0 ⊢
      rw [Array.getElem?_eq_getElem oz] at h0 ⊢
      simpa using h0
    · simp only [cL,ho,List.mem_map,List.mem_filter] at hi
      obtain ⟨e,⟨he,hb⟩,rfl⟩:=hi
      exact jv e (by simpa using he) hb
  · rintro ⟨hj,h0,jv⟩
    refine ⟨?_,ops[j],Array.getElem?_eq_getElem hj,fun e he hb=>?_⟩
    · rw [Array.getD_eq_getD_getElem?] at h0 ⊢
      rw [Array.getElem?_eq_getElem oz] at h0 ⊢
      simpa using h0
    · refine jv _ ?_
      simp only [cL,Array.getElem?_eq_getElem hj,List.mem_map,List.mem_filter]
      exact ⟨e,⟨by simpa using he,hb⟩,rfl⟩
theorem eF {i j:Nat} (hi:i<listed.size):(listed.setIfInBounds i true).getD j false=if i=j then true else listed.getD j false:=by
  by_cases h:i=j
  · subst h;simp [hi]
  · simp [h,Array.getElem?_setIfInBounds_ne h]
theorem Ey (bB:eT ops=true) (hl:listed.size=ops.size) {i:Nat} (hi:i<ops.size) (hu:listed.getD i false=false):∃j,j∈Region.ready .any ops listed:=by
  induction i using Nat.strongRecOn with
  | _ i ih=>
    by_cases h:∀j,j∈cL ops i→listed.getD j false=true
    · exact ⟨i,(jZ hl).2 ⟨hi,hu,h⟩⟩
    · have:∃j,j∈cL ops i∧listed.getD j false=false:=by
        false_or_by_contra
        rename_i hc
        refine h (fun j hj=>?_)
        cases hx:listed.getD j false
        · exact absurd ⟨j,hj,hx⟩ hc
        · rfl
      obtain ⟨j,hj,hx⟩:=this
      have cF:=B0 bB hi hj
      exact ih j cF oz hx
theorem count_set {i:Nat} (hi:i<ops.size) (hl:listed.size=ops.size) (hu:listed.getD i false=false) {fuel:Nat} (hf:((List.range ops.size).filter fun j=> !listed.getD j false).length≤fuel+1):
    ((List.range ops.size).filter fun j=> !(listed.setIfInBounds i true).getD j false).length≤fuel:=by
  have qk:i∈(List.range ops.size).filter fun j=> !listed.getD j false:=by simp only [List.mem_filter,List.mem_range];exact ⟨hi,by rw [hu];rfl⟩
  have heq:((List.range ops.size).filter fun j=> !(listed.setIfInBounds i true).getD j false)=((List.range ops.size).filter fun j=> !listed.getD j false).filter (fun j=>j !=i):=by
    rw [List.filter_filter]
    apply List.filter_congr
    intro j _
    rw [eF oz]
    by_cases h:i=j
    · subst h;simp
    · simp [h,Ne.symm h]
  have cF:(((List.range ops.size).filter fun j=> !listed.getD j false).filter (fun j=>j !=i)).length<((List.range ops.size).filter fun j=> !listed.getD j false).length:=by
    rcases Nat.lt_or_ge (((List.range ops.size).filter fun j=> !listed.getD j false).filter (fun j=>j !=i)).length ((List.range ops.size).filter fun j=> !listed.getD j false).length with h|h
    · exact h
    · have:=List.length_filter_eq_length_iff.1 (Nat.le_antisymm (List.length_filter_le _ _) h) i qk
      simp at this
  rw [heq];omega
theorem HJ {o:Oper} (hs:∀cs b,o.op≠ .select cs b) {k:Nat} (ho:ops[k]?=some o) {a:Act} (h:∀t u,t∈looks ops k→look Γ t=some u→a.tmps.getD t undef=u):∃ρ,Ku ρ Γ∧execOp a.eval o=execOp ρ o:=by
  refine ⟨fun x=>(ev Γ x).getD (a.eval x),fun x v e=>by simp [e],execOp_congr o hs fun x hx=>?_⟩
  cases hv:ev Γ x with
  | none=>simp
  | some u=>
    cases x with
    | tmp t=>
      simp only [Option.getD_some]
      refine h t u ?_ hv
      simp only [looks,ho,Oper.looksAt]
      exact List.mem_append_left _ (List.mem_filterMap.2 ⟨.tmp t,by simpa using hx,rfl⟩)
    | const c=>simpa [ev,Act.eval] using hv
    | global g=>simpa [ev,Act.eval] using hv
    | func f=>simpa [ev,Act.eval] using hv
theorem Inv.run (bB:eT ops=true) (h:Inv P n ops T Pn Γ w listed a) {p:pf} (hp:p∈Pn) (hr:p.k∈Region.ready .any ops listed):
    ∃o d,ops[p.k]?=some o∧o.dst=some d∧Inv P n ops T Pn Γ w (listed.setIfInBounds p.k true) (a.put (some d) p.v)∧
      ((Region.wanted o (yielded ops a.tmps)=true∧∀next Q,next (a.put o.dst p.v) w→o.wp P a w next Q)∨(Region.wanted o (yielded ops a.tmps)=false∧p.v=undef)):=by
  obtain ⟨hk,hu,jv⟩:=(jZ h.kU).1 hr
  obtain ⟨hT,hpr⟩:=h.prom p hp
  obtain ⟨hC,hd,Γk,hy,Xx⟩:=hpr hu
  obtain ⟨o,ho,Tl⟩:=hy w hC a (fun t u ht hl=>(Xx t u ht hl).2 fun q _ h2 h5 _=>by rw [jv q.k h5] at h2;cases h2)
  cases rB:gu ops p.k with
  | none=>rw [rB] at hd;simp at hd
  | some d=>
    have hod:o.dst=some d:=by simpa [gu,ho] using rB
    have Au:d<n:=by rw [rB] at hd;simpa using hd
    refine ⟨o,d,ho,hod,?_,Tl⟩
    have Aq:p.k<listed.size:=by rw [h.kU];exact hk
    have Fw:∀t,(a.put (some d) p.v).tmps.getD t undef=if d=t then p.v else a.tmps.getD t undef:=fun t=>by
      by_cases e:d=t
      · subst e;simp [Act.put,Array.getD_eq_getD_getElem?,h.size,Au]
      · simp [Act.put,Array.getD_eq_getD_getElem?,e]
    have xJ:∀j,(listed.setIfInBounds p.k true).getD j false=false→p.k≠j∧listed.getD j false=false:=fun j hj=>by
      rw [eF Aq] at hj
      split at hj
      · cases hj
      · rename_i e;exact ⟨e,hj⟩
    refine ⟨by simp [h.kU],by simp [Act.put,h.size],by simp [Act.put,h.defers],h.k6,fun i hi j hj=>?_,fun i hi=>?_,fun t v hv=>⟨fun q hq xl D4=>?_,fun vZ=>?_⟩,fun i hi hui=>h.LK i hi (xJ i hui).2,fun q hq=>⟨(h.prom q hq).1,fun xl=>?_⟩,h.one⟩
    · rw [eF Aq] at hi ⊢
      split
      · rfl
      · split at hi
        · rename_i e;subst e;exact jv j hj
        · exact h.rL i hi j hj
    · rw [eF Aq] at hi
      split at hi
      · rename_i e;subst e;exact hT
      · exact h.taken i hi
    · exact (h.slot t v hv).1 q hq (xJ _ xl).2 D4
    · rw [Fw]
      by_cases e:d=t
      · rw [if_pos e];exact (h.slot t v hv).1 p hp hu (e▸rB)
      · rw [if_neg e]
        refine (h.slot t v hv).2 fun q hq xl D4=>?_
        by_cases e2:p.k=q.k
        · rw [←e2,rB] at D4;injection D4;contradiction
        · exact vZ q hq (by rw [eF Aq,if_neg e2];exact xl) D4
    · obtain ⟨bm,xl⟩:=xJ _ xl
      obtain ⟨hqT,Am⟩:=h.prom q hq
      obtain ⟨hqC,uE,Γq,hqy,hqs⟩:=Am xl
      refine ⟨hqC,uE,Γq,hqy,fun t u ht hl=>⟨fun r Tm hur X6 Tn=>(hqs t u ht hl).1 r Tm (xJ _ hur).2 X6 Tn,fun vZ=>?_⟩⟩
      rw [Fw]
      have hqk:q.k<ops.size:=by cases hx:gu ops q.k with|none=>rw [hx] at uE;simp at uE|some x=>exact wC hx
      by_cases e:d=t
      · rw [if_pos e]
        subst e
        rcases (jY bB hqk hk bm rB).2 ht with h6|h6
        · exact (hqs d u ht hl).1 p hp hu rB h6
        · rw [jv q.k h6] at xl;cases xl
      · rw [if_neg e]
        refine (hqs t u ht hl).2 fun r Tm hur Tn X6=>?_
        by_cases e2:p.k=r.k
        · rw [←e2,rB] at X6;injection X6;contradiction
        · exact vZ r Tm (by rw [eF Aq,if_neg e2];exact hur) Tn X6
def kQ (ops:Array Oper) (Γ:Env) (o:Oper):Option Bool:=
  match o.guard with
  | none=>some true
  | some (j,want)=>match gu ops j with
    | some t=>match look Γ t with
      | some (.bool b)=>some (b==want)
      | some (.tuple vs)=>if vs.size=0 then some false else none
      | _=>none
    | none=>none
theorem uT {o:Oper} {k:Nat} (ho:ops[k]?=some o) {c:Bool} (h:kQ ops Γ o=some c) {a:Act} (ha:∀t u,t∈looks ops k→look Γ t=some u→a.tmps.getD t undef=u):Region.wanted o (yielded ops a.tmps)=c:=by
  unfold kQ at h
  unfold Region.wanted
  split at h
  · rename_i hg;rw [hg];simpa using h
  · rename_i j want hg
    rw [hg]
    split at h
    · rename_i t ht
      split at h
      · rename_i b hb
        have hm:t∈looks ops k:=by
          simp only [looks,ho,Oper.looksAt,hg]
          exact List.mem_append_right _ (by rw [show ((ops[j]?).bind (·.dst))=some t from ht];simp)
        have h1:=ha t _ hm hb
        have:yielded ops a.tmps j=some b:=by
          unfold yielded
          rw [show ((ops[j]?).bind (·.dst))=some t from ht]
          rw [Array.getD_eq_getD_getElem?] at h1
          simp only [Option.bind_some]
          cases hx:a.tmps[t]? with
          | none=>rw [hx] at h1;simp [undef] at h1
          | some u=>rw [hx] at h1;simp at h1;subst h1;rfl
        simp only [this]
        injection h
      · rename_i vs hb
        have hm:t∈looks ops k:=by
          simp only [looks,ho,Oper.looksAt,hg]
          exact List.mem_append_right _ (by rw [show ((ops[j]?).bind (·.dst))=some t from ht];simp)
        have h1:=ha t _ hm hb
        split at h
        case isFalse=>cases h
        have:yielded ops a.tmps j=none:=by
          unfold yielded
          rw [show ((ops[j]?).bind (·.dst))=some t from ht]
          rw [Array.getD_eq_getD_getElem?] at h1
          simp only [Option.bind_some]
          cases hx:a.tmps[t]? with
          | none=>rfl
          | some u=>rw [hx] at h1;simp at h1;subst h1;rfl
        simp only [this]
        injection h
      · cases h
    · cases h
theorem W.Pa {id:Nat} {l:List Oper} (hm:P.follows .mixedOrders=true) (bB:eT l.toArray=true) (h:eT l.toArray=true→∀w',cM [] w w'→WD P n l.toArray Q [] [] Γ w'):W P n (.region id l.toArray true) Q Γ w:=by
  intro a ha
  refine wp_region_any hm (h bB { w with drawn:=w.drawn+1 } (cM.LW _ _) _ _ _ ?_ ?_)
  · have hl:∀i,(Array.replicate l.toArray.size false).getD i false=false:=fun i=>by
      rw [Array.getD_eq_getD_getElem?,Array.getElem?_replicate];split<;>rfl
    exact ⟨by simp,ha.size,ha.defers,by simp,(fun i hi=>by rw [hl] at hi;cases hi),(fun i hi=>by rw [hl] at hi;cases hi),fun t v hv=>⟨by simp,fun _=>ha.slot t v hv⟩,by simp,by simp,by simp⟩
  · refine Nat.le_trans (List.length_filter_le _ _) (by simp)
theorem WD.take (bB:eT ops=true) (k:Nat) {o:Oper} {d:Nat} (v:Value) (C:World→Prop) (ho:ops[k]?=some o) (hd:o.dst=some d) (Au:Nat.blt d n=true) (hT:T.contains k=false) (qj:(cL ops k).all T.contains=true)
    (hC:C w) (hy:kQ ops Γ o=some true∧(∀w',C w'→aq P Γ w' o.op o.type fun v' kR=>v'=v∧kR=w')∨kQ ops Γ o=some false∧v=undef)
    (h:WD P n ops Q (k::T) (⟨k,v,C⟩::Pn) ((d,v)::Γ) w):WD P n ops Q T Pn Γ w:=by
  intro fuel listed a hi hf
  have rB:gu ops k=some d:=by simp [gu,ho,hd]
  have hkT:k∉T:=by simpa using hT
  have MI:∀j,j∈cL ops k→j∈T:=by simpa using qj
  have TK:d<n:=of_eq_true (Eq.trans Nat.blt_eq.symm (eq_true Au))
  have TA:listed.getD k false=false:=by cases hx:listed.getD k false;rfl;exact absurd (hi.taken k hx) hkT
  have hPk:∀p,p∈Pn→p.k≠k:=fun p hp e=>hkT (e▸(hi.prom p hp).1)
  have Yj:∀p,p∈Pn→listed.getD p.k false=false→p.k<ops.size:=fun p hp hu=>by
    obtain ⟨_,TM,_⟩:=(hi.prom p hp).2 hu
    cases hx:gu ops p.k with|none=>rw [hx] at TM;simp at TM|some x=>exact wC hx
  have TB:=wC rB
  refine h fuel listed a ⟨hi.kU,hi.size,hi.defers,fun i uG j hj=>?_,hi.rL,fun i uG=>List.mem_cons_of_mem _ (hi.taken i uG),fun t u hu=>⟨fun p hp nL D5=>?_,fun vZ=>?_⟩,fun i uG hui=>?_,fun p hp=>⟨?_,fun nL=>?_⟩,fun p hp q hq e=>?_⟩ hf
  · rcases List.mem_cons.1 uG with rfl|uG
    · exact List.mem_cons_of_mem _ (MI j hj)
    · exact List.mem_cons_of_mem _ (hi.k6 i uG j hj)
  · rcases List.mem_cons.1 hp with rfl|hp
    · rw [rB] at D5;injection D5 with D5;subst D5
      rw [du] at hu;injection hu
    · by_cases e:d=t
      · subst e
        exact absurd D5 (jY bB (Yj p hp nL) TB (Ne.symm (hPk p hp)) rB).1
      · rw [c0 _ _ e] at hu;exact (hi.slot t u hu).1 p hp nL D5
  · by_cases e:d=t
    · subst e;exact absurd rB (vZ ⟨k,v,C⟩ (by simp) TA)
    · rw [c0 _ _ e] at hu
      exact (hi.slot t u hu).2 fun p hp=>vZ p (List.mem_cons_of_mem _ hp)
  · rcases List.mem_cons.1 uG with rfl|uG
    · exact ⟨⟨i,v,C⟩,by simp,rfl⟩
    · obtain ⟨p,hp,e⟩:=hi.LK i uG hui
      exact ⟨p,List.mem_cons_of_mem _ hp,e⟩
  · rcases List.mem_cons.1 hp with rfl|hp
    · simp
    · exact List.mem_cons_of_mem _ (hi.prom p hp).1
  · rcases List.mem_cons.1 hp with rfl|hp
    · refine ⟨hC,by simp [rB,TK],Γ,fun w' hw' a' ha'=>⟨o,ho,?_⟩,fun t u ht hl=>⟨fun q hq xl D4 RH=>?_,fun vZ=>?_⟩⟩
      · rcases hy with ⟨hw,hy⟩|⟨hw,hv⟩
        case inr=>exact .inr ⟨uT ho hw ha',hv⟩
        refine .inl ⟨uT ho hw ha',?_⟩
        obtain ⟨ρ,hρ,he⟩:=HJ (Γ:=Γ) (fun cs b=>Region.noSelect_spec (nW bB) k o cs b ho) ho ha'
        exact fun next Q hn=>(hy w' hw').wpR hρ he fun v' kR ⟨e1,e2⟩=>by rw [e1,e2];exact hn
      · rcases List.mem_cons.1 hq with rfl|hq
        · have:=B0 bB TB RH;simp at this
        · exact (hi.slot t u hl).1 q hq xl D4
      · refine (hi.slot t u hl).2 fun q hq xl D4=>?_
        have hqT:=(hi.prom q hq).1
        rcases (jY bB TB (Yj q hq xl) (hPk q hq) D4).2 ht with h6|h6
        · exact vZ q (List.mem_cons_of_mem _ hq) xl h6 D4
        · exact hkT (hi.k6 q.k hqT k h6)
    · obtain ⟨h1,h2,Γk,h3,h4⟩:=(hi.prom p hp).2 nL
      refine ⟨h1,h2,Γk,h3,fun t u ht hl=>⟨fun q hq xl D4 RH=>?_,fun vZ=>(h4 t u ht hl).2 fun q hq=>vZ q (List.mem_cons_of_mem _ hq)⟩⟩
      rcases List.mem_cons.1 hq with rfl|hq
      · exact absurd (hi.k6 p.k (hi.prom p hp).1 k RH) hkT
      · exact (h4 t u ht hl).1 q hq xl D4 RH
  · rcases List.mem_cons.1 hp with rfl|hp<;>rcases List.mem_cons.1 hq with rfl|hq
    · rfl
    · exact absurd e.symm (hPk q hq)
    · exact absurd e (hPk p hp)
    · exact hi.one p hp q hq e
theorem drain (bB:eT ops=true)
    (Xy:∀fuel listed a,Inv P n ops T Pn Γ w listed a→((List.range ops.size).filter fun i=> !listed.getD i false).length≤fuel+1→∀j,j∈Region.ready .any ops listed→j∉T→wpOp P ops Q j (wpAny P .any ops Q fuel (listed.setIfInBounds j true)) a w)
    (TJ:∀listed a,Inv P n ops T Pn Γ w listed a→(∀i,i<ops.size→listed.getD i false=true)→Q .normal a w):WD P n ops Q T Pn Γ w:=by
  intro fuel
  induction fuel with
  | zero=>
    intro listed a hi hf
    have jv:∀i,i<ops.size→listed.getD i false=true:=fun i cF=>by
      cases hx:listed.getD i false with
      | true=>rfl
      | false=>
        have:i∈(List.range ops.size).filter fun i=> !listed.getD i false:=by simp only [List.mem_filter,List.mem_range];exact ⟨cF,by rw [hx];rfl⟩
        have:=List.length_pos_of_mem this
        omega
    refine ⟨?_,TJ listed a hi jv⟩
    rw [List.eq_nil_iff_forall_not_mem]
    intro j hj
    obtain ⟨h1,h2,_⟩:=(jZ hi.kU).1 hj
    rw [jv j h1] at h2;cases h2
  | succ fuel ih=>
    intro listed a hi hf
    refine ⟨fun hr=>TJ listed a hi fun i cF=>?_,fun j hj=>?_⟩
    · cases hx:listed.getD i false with
      | true=>rfl
      | false=>
        obtain ⟨j,hj⟩:=Ey bB hi.kU cF hx
        rw [hr] at hj;cases hj
    · by_cases hT:j∈T
      · obtain ⟨h1,h2,_⟩:=(jZ hi.kU).1 hj
        obtain ⟨p,hp,rfl⟩:=hi.LK j hT h2
        obtain ⟨o,d,ho,hd,uG,Tl⟩:=hi.run bB hp hj
        have hk:=ih (listed.setIfInBounds p.k true) (a.put (some d) p.v) uG (count_set h1 hi.kU h2 hf)
        unfold wpOp
        rw [ho]
        rcases Tl with ⟨hw,hr⟩|⟨hw,hv⟩
        · simp only [hw,if_true]
          exact .inl (hr _ _ (by rw [hd];exact hk))
        · simp only [hw,Bool.false_eq_true,if_false]
          rw [hd,←hv];exact hk
      · exact Xy fuel listed a hi hf j hj hT
theorem WD.done (bB:eT ops=true) (jv:(List.range ops.size).all T.contains=true) (h:X n Q .normal Γ w):WD P n ops Q T Pn Γ w:=by
  have Ye:∀i,i<ops.size→i∈T:=by simpa using jv
  refine drain bB (fun fuel listed a hi _ j hj hT=>absurd (Ye j ((jZ hi.kU).1 hj).1) hT) fun listed a hi hl=>h a ⟨hi.size,hi.defers,fun t v hv=>(hi.slot t v hv).2 fun p hp nL D5=>?_⟩
  rw [hl p.k (wC D5)] at nL;cases nL
theorem WD.part (t:Nat) {p:Prop} [Decidable p] (ht:look Γ t=some (.bool (decide p))) (h1:p→WD P n ops Q T Pn ((t,.bool true)::Γ) w) (h2:¬p→WD P n ops Q T Pn ((t,.bool false)::Γ) w):WD P n ops Q T Pn Γ w:=by
  intro fuel listed a hi hf
  have key:∀b,decide p=b→Inv P n ops T Pn ((t,.bool b)::Γ) w listed a:=fun b hb=>by
    refine ⟨hi.kU,hi.size,hi.defers,hi.k6,hi.rL,hi.taken,fun u v hv=>hi.slot u v ?_,hi.LK,hi.prom,hi.one⟩
    by_cases e:t=u
    · subst e;rw [du] at hv;rw [ht,hb];exact hv
    · rwa [c0 _ _ e] at hv
  by_cases hp:p
  · exact h1 hp fuel listed a (key true (by simp [hp])) hf
  · exact h2 hp fuel listed a (key false (by simp [hp])) hf
def DJ (ops:Array Oper) (j:Nat):List Nat:=(List.range j).reverse.foldl (fun S i=>if (j::S).any (fun s=>(cL ops s).contains i) then i::S else S) []
theorem DI {j:Nat} (hj:∀i,i∈cL ops j→listed.getD i false=true) (hc:∀i,listed.getD i false=true→∀k,k∈cL ops i→listed.getD k false=true):∀i,i∈DJ ops j→listed.getD i false=true:=by
  unfold DJ
  have:∀(l S:List Nat),(∀i,i∈S→listed.getD i false=true)→∀i,i∈l.foldl (fun S i=>if (j::S).any (fun s=>(cL ops s).contains i) then i::S else S) S→listed.getD i false=true:=by
    intro l
    induction l with
    | nil=>intro S hS i hi;exact hS i hi
    | cons x l ih=>
      intro S hS i hi
      simp only [List.foldl_cons] at hi
      refine ih _ ?_ i hi
      intro k hk
      split at hk
      · rename_i hx
        rcases List.mem_cons.1 hk with rfl|hk
        · simp only [List.any_cons,Bool.or_eq_true,List.any_eq_true,List.contains_eq_mem,decide_eq_true_eq] at hx
          rcases hx with hx|⟨s,hs,hx⟩
          · exact hj k hx
          · exact hc s (hS s hs) k hx
        · exact hS k hk
      · exact hS k hk
  exact this _ [] (by simp)
def B3 (Γ:Env) (d:Option Tmp) (v:Value):Env:=match d with|some d=>(d,v)::Γ|none=>Γ
def Still (w:World):List pf→Prop
  | []=>True
  | p::r=>p.C w∧Still w r
theorem Still.at {w:World} :∀ {l:List pf},Still w l→∀p,p∈l→p.C w
  | _::_,h,p,hp=>by rcases List.mem_cons.1 hp with rfl|hp;exact h.1;exact Still.at h.2 p hp
def Oh (P:Program) (n:Nat) (ops:Array Oper) (Q:Exit→Act→World→Prop) (T:List Nat) (Pn:List pf) (Γ:Env) (w:World) (j:Nat):Prop:=
  ∃o Og,ops[j]?=some o∧T.contains j=false∧(cL ops j).all T.contains=true∧(match o.dst with|some d=>Nat.blt d n|none=>true)=true∧kQ ops Γ o=some true∧
    Pn.filter (fun p=> !(DJ ops j).contains p.k)=Og∧aq P Γ w o.op o.type fun v w'=>Still w' Og∧WD P n ops Q (j::T) Og (B3 Γ o.dst v) w'
theorem WD.Rv (bB:eT ops=true) (js:List Nat) (bm:js.isEmpty=false)
    (CR:((List.range ops.size).all fun i=>js.contains i||T.contains i|| !((cL ops i).all T.contains))=true) (h:∀j,j∈js→Oh P n ops Q T Pn Γ w j):WD P n ops Q T Pn Γ w:=by
  refine drain bB (fun fuel listed a hi hf i hir cY=>?_) (fun listed a hi hl=>?_)
  case refine_2=>
    cases js with
    | nil=>simp at bm
    | cons j js=>
      obtain ⟨o,Og,ho,hT,_⟩:=h j (by simp)
      exact absurd (hi.taken j (hl j (Array.getElem?_eq_some_iff.1 ho).1)) (by simpa using hT)
  obtain ⟨JO,hiu,TC⟩:=(jZ hi.kU).1 hir
  have cD:i∈js:=by
    have h1:=List.all_eq_true.1 CR i (by simpa using JO)
    simp only [Bool.or_eq_true,List.contains_eq_mem,decide_eq_true_eq,Bool.not_eq_true'] at h1
    rcases h1 with (h1|h1)|h1
    · exact h1
    · exact absurd h1 cY
    · have:(cL ops i).all T.contains=true:=by simp only [List.all_eq_true,List.contains_eq_mem,decide_eq_true_eq];exact fun k hk=>hi.taken k (TC k hk)
      exact absurd this (by rw [h1];simp)
  obtain ⟨o,Og,ho,hT,qj,Au,hw,hP,h⟩:=h i cD
  have hjT:i∉T:=by simpa using hT
  have MI:∀k,k∈cL ops i→k∈T:=by simpa using qj
  have pT:∀p,p∈Og↔p∈Pn∧p.k∉DJ ops i:=fun p=>by rw [←hP];simp
  have TP:=DI TC hi.rL
  have TD:i<listed.size:=by rw [hi.kU];exact JO
  have OB:∀p,p∈Pn→p.k≠i:=fun p hp e=>hjT (e▸(hi.prom p hp).1)
  have TL:∀p,p∈Pn→listed.getD p.k false=false→p.k<ops.size:=fun p hp hu=>by
    obtain ⟨_,TM,_⟩:=(hi.prom p hp).2 hu
    cases hx:gu ops p.k with|none=>rw [hx] at TM;simp at TM|some x=>exact wC hx
  have hag:∀t u,t∈looks ops i→look Γ t=some u→a.tmps.getD t undef=u:=fun t u ht hl=>(hi.slot t u hl).2 fun p hp nL D5=>by
    rcases (jY bB JO (TL p hp nL) (OB p hp) D5).2 ht with h6|h6
    · rw [TC p.k h6] at nL;cases nL
    · exact hjT (hi.k6 p.k (hi.prom p hp).1 i h6)
  have Xs:=uT ho hw hag
  obtain ⟨ρ,hρ,he⟩:=HJ (Γ:=Γ) (fun cs b=>Region.noSelect_spec (nW bB) i o cs b ho) ho hag
  unfold wpOp
  rw [ho]
  simp only [Xs,if_true]
  refine .inl (h.wpR hρ he fun v w' ⟨iu,hk⟩=>hk fuel _ _ ?_ (count_set JO hi.kU hiu hf))
  have xJ:∀k,(listed.setIfInBounds i true).getD k false=false→i≠k∧listed.getD k false=false:=fun k hk=>by
    rw [eF TD] at hk
    split at hk
    · cases hk
    · rename_i e;exact ⟨e,hk⟩
  have Fw:∀t,(a.put o.dst v).tmps.getD t undef=if o.dst=some t then v else a.tmps.getD t undef:=fun t=>by
    cases hx:o.dst with
    | none=>simp [Act.put]
    | some d=>
      have TK:d<n:=by rw [hx] at Au;exact of_eq_true (Eq.trans Nat.blt_eq.symm (eq_true Au))
      by_cases e:d=t
      · subst e;simp [Act.put,Array.getD_eq_getD_getElem?,hi.size,TK]
      · simp [Act.put,Array.getD_eq_getD_getElem?,e]
  have hdi:gu ops i=o.dst:=by simp [gu,ho]
  refine ⟨by simp [hi.kU],by cases o.dst<;>simp [Act.put,hi.size],by cases o.dst<;>simp [Act.put,hi.defers],fun k hk m hm=>?_,fun k hk m hm=>?_,fun k hk=>?_,fun t u hu=>?_,fun k hk TA=>?_,fun p hp=>⟨List.mem_cons_of_mem _ (hi.prom p ((pT p).1 hp).1).1,fun nL=>?_⟩,fun p hp q hq=>hi.one p ((pT p).1 hp).1 q ((pT q).1 hq).1⟩
  · rcases List.mem_cons.1 hk with rfl|hk
    · exact List.mem_cons_of_mem _ (MI m hm)
    · exact List.mem_cons_of_mem _ (hi.k6 k hk m hm)
  · rw [eF TD] at hk ⊢
    split
    · rfl
    · split at hk
      · rename_i e;subst e;exact TC m hm
      · exact hi.rL k hk m hm
  · rw [eF TD] at hk
    split at hk
    · rename_i e;subst e;simp
    · exact List.mem_cons_of_mem _ (hi.taken k hk)
  · rw [Fw]
    by_cases e:o.dst=some t
    · rw [if_pos e]
      have:look (B3 Γ o.dst v) t=some v:=by rw [e];exact du _ _ _
      rw [this] at hu;injection hu with hu
      refine ⟨fun p hp nL D5=>?_,fun _=>hu⟩
      have VG:=((pT p).1 hp).1
      exact absurd (hdi.trans e) (fun e2=>(jY bB (TL p VG (xJ _ nL).2) JO (Ne.symm (OB p VG)) e2).1 D5)
    · rw [if_neg e]
      have:look (B3 Γ o.dst v) t=look Γ t:=by
        cases hx:o.dst with
        | none=>rfl
        | some d=>exact c0 _ _ (fun e2=>e (by rw [hx,e2]))
      rw [this] at hu
      refine ⟨fun p hp nL D5=>(hi.slot t u hu).1 p ((pT p).1 hp).1 (xJ _ nL).2 D5,fun vZ=>(hi.slot t u hu).2 fun p hp nL D5=>?_⟩
      refine vZ p ((pT p).2 ⟨hp,fun ha=>by rw [TP _ ha] at nL;cases nL⟩) ?_ D5
      rw [eF TD,if_neg (Ne.symm (OB p hp))];exact nL
  · obtain ⟨bm,TA⟩:=xJ _ TA
    rcases List.mem_cons.1 hk with rfl|hk
    · exact absurd rfl bm
    · obtain ⟨p,hp,rfl⟩:=hi.LK k hk TA
      exact ⟨p,(pT p).2 ⟨hp,fun ha=>by rw [TP _ ha] at TA;cases TA⟩,rfl⟩
  · obtain ⟨VG,CQ⟩:=(pT p).1 hp
    obtain ⟨bm,nL⟩:=xJ _ nL
    obtain ⟨_,h2,Γk,h3,h4⟩:=(hi.prom p VG).2 nL
    refine ⟨iu.at p hp,h2,Γk,h3,fun t u ht hl=>⟨fun q hq xl D4 RH=>(h4 t u ht hl).1 q ((pT q).1 hq).1 (xJ _ xl).2 D4 RH,fun vZ=>?_⟩⟩
    rw [Fw]
    have acE:o.dst≠some t:=fun e=>by
      rcases (jY bB (TL p VG nL) JO bm (hdi.trans e)).2 ht with h6|h6
      · exact hjT (hi.k6 p.k (hi.prom p VG).1 i h6)
      · rw [TC p.k h6] at nL;cases nL
    rw [if_neg acE]
    refine (h4 t u ht hl).2 fun q hq xl RH D4=>?_
    refine vZ q ((pT q).2 ⟨hq,fun ha=>by rw [TP _ ha] at xl;cases xl⟩) ?_ RH D4
    rw [eF TD,if_neg (Ne.symm (OB q hq))];exact xl
theorem WD.Xk (bB:eT ops=true) (j:Nat) (CR:((List.range ops.size).all fun i=>[j].contains i||T.contains i|| !((cL ops i).all T.contains))=true) (h:Oh P n ops Q T Pn Γ w j):WD P n ops Q T Pn Γ w:=
  WD.Rv bB [j] rfl CR (fun i hi=>by simp only [List.mem_singleton] at hi;subst hi;exact h)
end
structure Ty (α:Type) where
  sz:Nat
  enc:α→List Value
  len:∀x,(enc x).length=sz
  one:∀x u,u∈enc x→u.oneCell'=true
  pos:0<sz
class Df {α:Type} (T:Ty α) (d:outParam α):Prop where
  h:True
def Ty.all {α:Type} (T:Ty α) (xs:List α):List Value:=xs.flatMap T.enc
def aw (k:IntKind):Ty Int:=⟨1,fun x=>[.int k x],fun _=>rfl,fun x u h=>by simp only [List.mem_singleton] at h;subst h;rfl,by omega⟩
def bC:Ty Bool:=⟨1,fun x=>[.bool x],fun _=>rfl,fun x u h=>by simp only [List.mem_singleton] at h;subst h;rfl,by omega⟩
section
variable {α:Type} (T:Ty α)
theorem Ty.cr (xs:List α):(T.all xs).length=xs.length*T.sz:=by
  induction xs with
  | nil=>simp [Ty.all]
  | cons x xs ih=>simp only [Ty.all,List.flatMap_cons,List.length_append,T.len,List.length_cons,Nat.add_mul,Nat.one_mul] at*;rw [ih];omega
theorem Ty.all_append (xs ys:List α):T.all (xs++ys)=T.all xs++T.all ys:=by simp [Ty.all]
theorem Ty.Im (xs:List α):∀u∈T.all xs,u.oneCell'=true:=by
  intro u hu
  simp only [Ty.all,List.mem_flatMap] at hu
  obtain ⟨x,_,hx⟩:=hu
  exact T.one x u hx
theorem Ty.oG (d:α):∀(xs:List α) (i j:Nat),i<xs.length→j<T.sz→(T.all xs)[i*T.sz+j]?=(T.enc (xs.getD i d))[j]?
  | [],i,j,h,_=>by simp at h
  | x::xs,0,j,_,hj=>by
    simp only [Ty.all,List.flatMap_cons,Nat.zero_mul,Nat.zero_add,List.getD_cons_zero]
    rw [List.getElem?_append_left (by rw [T.len];exact hj)]
  | x::xs,i+1,j,h,hj=>by
    simp only [Ty.all,List.flatMap_cons,List.getD_cons_succ]
    rw [List.getElem?_append_right (by rw [T.len,Nat.add_mul];omega),T.len,←Ty.oG d xs i j (by simpa using h) hj]
    congr 1
    rw [Nat.add_mul];omega
theorem Ty.QV (h1:T.sz=1) (d:α) (xs:List α) (i:Nat) (h:i<xs.length):(T.all xs)[i]?=(T.enc (xs.getD i d))[0]?:=by
  have:=T.oG d xs i 0 h oz
  simpa [h1] using this
theorem Ty.DK (d:α) (xs:List α) (i:Nat) (h:i<xs.length):((T.all xs).drop (i*T.sz)).take T.sz=T.enc (xs.getD i d):=by
  apply List.ext_getElem?
  intro j
  rw [List.getElem?_take]
  by_cases hj:j<T.sz
  · rw [if_pos hj,List.getElem?_drop,T.oG d xs i j h hj]
  · rw [if_neg hj,List.getElem?_eq_none (by rw [T.len];omega)]
theorem Ty.uP (d:α):∀(xs:List α) (i j:Nat) (x':α) (u:Value),i<xs.length→j<T.sz→T.enc x'=(T.enc (xs.getD i d)).set j u→(T.all xs).set (i*T.sz+j) u=T.all (xs.set i x')
  | [],i,j,_,_,h,_,_=>by simp at h
  | x::xs,0,j,x',u,_,hj,he=>by
    simp only [Ty.all,List.flatMap_cons,Nat.zero_mul,Nat.zero_add,List.set_cons_zero,List.getD_cons_zero] at*
    rw [List.set_append_left _ _ (by rw [T.len];exact hj),he]
  | x::xs,i+1,j,x',u,h,hj,he=>by
    simp only [Ty.all,List.flatMap_cons,List.set_cons_succ,List.getD_cons_succ] at*
    rw [List.set_append_right _ _ (by rw [T.len,Nat.add_mul];omega),T.len]
    have ih:=Ty.uP d xs i j x' u (by simpa using h) hj he
    simp only [Ty.all] at ih
    rw [←ih]
    congr 2
    rw [Nat.add_mul];omega
def bz (w:World) (v:Value) (xs:List α):Prop:=Rd w v T.sz xs.length (T.all xs)
def ag (v:Value) (e:TypeId) (xs:List α):Chunk:=row v e T.sz xs.length (T.all xs)
end
section
variable {α:Type} {T:Ty α} {P:Program} {Γ:Env} {w:World} {ty:TypeId} {K:Value→World→Prop}
theorem bz.kept {w':World} {v:Value} {xs:List α} (h:bz T w v xs) (k:cM [] w w'):bz T w' v xs:=Rd.kept h k
theorem bz.keep {w':World} {v:Value} {xs:List α} {S:List Nat} (h:bz T w v xs) (k:cM S w w') (hS:∀g,Value.Gh v=some g→g∉S):bz T w' v xs:=Rd.keep h k hS
theorem bz.at {w':World} {v:Value} {xs:List α} {G:List (List Chunk)} (h:bz T w v xs) (k:av w [] w' G):bz T w' v xs:=Rd.at h k
theorem bz.nil (w:World) (A:aP) (cap:Nat):bz T w (.slice A 0 cap) []:=⟨A,cap,rfl,by simp [Ty.all],by simp,by simp [Ty.all]⟩
theorem bz.le {v:Value} {xs:List α} (h:bz T w v xs):xs.length≤9223372036854775807:=by obtain ⟨_,_,_,_,h,_⟩:=h;exact h
theorem av.GU {w':World} {L:List Chunk} {G:List (List Chunk)} {v:Value} {e:TypeId} {xs:List α} (h:av w L w' G) (i:Nat) (hi:G[i]?=some [ag T v e xs]):bz T w' v xs:=h.rd i hi
theorem av.LP {w':World} {L:List Chunk} {G:List (List Chunk)} {v:Value} {e:TypeId} {xs:List α} (h:av w L w' G) (i:Nat) (hi:G[i]?=some [ag T v e xs]):w'.ownsRow 0 e T.sz v xs.length (T.all xs):=h.own i hi
theorem av.re {w w':World} {L:List Chunk} {G G':List (List Chunk)} (h:av w L w' G) (e:G'.flatten=G.flatten):av w L w' G':=by unfold av at*;rw [e];exact h
theorem cC {v:Value} {e:TypeId} {xs:List α} {L:List Chunk} (h:Hp w L) (hm:ag T v e xs∈L):bz T w v xs:=zL (mw (h.holds _ hm))
theorem OX {t e:TypeId} {x ix:Operand} {v:Value} {kd:IntKind} {i:Int} {b:Nat} {z:Option Value} {xs:List α} (j:Nat) (hT:T.sz=1) (ht:P.underlying t=some (.slice e)) (hs:bX P e=some (1,b,z))
    (hx:ev Γ x=some v) (hi:ev Γ ix=some (.int kd i)) (hr:bz T w v xs) (cD:i=((j:Nat):Int)) (hj:j<xs.length) (k:K (bu v j) w):aq P Γ w (.indexAddr t x ix) ty K:=by
  subst cD
  unfold bz at hr
  rw [hT] at hr
  exact tK ht hs hx hi hr oz oz oz (by simpa using k)
theorem OW {t e:TypeId} {x ix:Operand} {v:Value} {kd:IntKind} {i:Int} {s b:Nat} {z:Option Value} {xs:List α} (j:Nat) (hT:T.sz=s) (ht:P.underlying t=some (.slice e)) (hs:bX P e=some (s,b,z))
    (hx:ev Γ x=some v) (hi:ev Γ ix=some (.int kd i)) (hr:bz T w v xs) (cD:i=((j:Nat):Int)) (hj:j<xs.length) (k:K (bu v (j*s)) w):aq P Γ w (.indexAddr t x ix) ty K:=by
  subst cD
  subst hT
  exact tK ht hs hx hi hr oz oz T.pos (by simpa using k)
theorem OU {t:TypeId} {x:Operand} {v:Value} {xs:List α} {desc:TypeDesc} {u:Value} (j:Nat) (d:α) (hT:T.sz=1) (ht:P.underlying t=some desc) (hd:kP desc=false) (hx:ev Γ x=some (bu v j)) (hr:bz T w v xs) (hj:j<xs.length)
    (he:T.enc (xs.getD j d)=[u]) (k:K u w):aq P Γ w (.load t x) ty K:=
  HS ht hd hx hr (by rw [T.QV hT d xs j hj,he];rfl) k
theorem OS {t:TypeId} {x:Operand} {v:Value} {xs:List α} {desc:TypeDesc} {s b:Nat} {z:Option Value} {us:List Value} (j:Nat) (d:α) (hT:T.sz=s) (ht:P.underlying t=some desc) (hd:kP desc=true) (hs:bX P t=some (s,b,z)) (hx:ev Γ x=some (bu v (j*s))) (hr:bz T w v xs) (hj:j<xs.length)
    (he:T.enc (xs.getD j d)=us) (k:K (.agg us.toArray) w):aq P Γ w (.load t x) ty K:=by
  subst hT
  exact Dn us ht hd hs hx hr (by rw [←he,T.len]) T.pos (by rw [T.DK d xs j hj,he]) k
theorem Wi {t:TypeId} {x:Operand} {f off s sf:Nat} {g:Bool} {v:Value} {xs:List α} (j:Nat) (d:α) (hT:T.sz=s) (hf:lX P t f=some (off,sf,g)) (hs:Nat.beq sf 0=false) (hx:ev Γ x=some (bu v (j*s))) (hr:bz T w v xs) (hj:j<xs.length) (k:K (bu v (j*s+off)) w):aq P Γ w (.fieldAddr t x f) ty K:=by
  subst hT
  have h1:=T.oG d xs j 0 hj T.pos
  rw [Nat.add_zero,List.getElem?_eq_getElem (l:=T.enc (xs.getD j d)) (by rw [T.len];exact T.pos)] at h1
  exact AE hf hs hx hr h1 k
theorem OT {t:TypeId} {x:Operand} {v:Value} {xs:List α} {desc:TypeDesc} {off s:Nat} {u:Value} (j:Nat) (d:α) (hT:T.sz=s) (cF:Nat.blt off s=true) (ht:P.underlying t=some desc) (hd:kP desc=false) (hx:ev Γ x=some (bu v (j*s+off))) (hr:bz T w v xs) (hj:j<xs.length)
    (he:(T.enc (xs.getD j d))[off]?=some u) (k:K u w):aq P Γ w (.load t x) ty K:=by
  subst hT
  exact HS ht hd hx hr (by rw [T.oG d xs j off hj (of_eq_true (Eq.trans Nat.blt_eq.symm (eq_true cF))),he]) k
theorem K9 {t e:TypeId} {x y:Operand} {v:Value} {b:Nat} {z:Option Value} {xs:List α} {u:Value} (j:Nat) (x':α) (hT:T.sz=1) (hs:bX P t=some (1,b,z)) (hx:ev Γ x=some (bu v j)) (hy:ev Γ y=some u) (he:T.enc x'=[u])
    (ho:w.ownsRow 0 e T.sz v xs.length (T.all xs)) (hj:j<xs.length) (k:∀w',ax w [ag T v e xs] w' [ag T v e (xs.set j x')]→K undef w'):aq P Γ w (.store t x y) ty K:=by
  have rv:(T.all xs).set j u=T.all (xs.set j x'):=by
    have:=T.uP (xs.getD j x') xs j 0 x' u hj oz (by
      have h2:=T.len (xs.getD j (xs.getD j x'))
      rw [hT] at h2
      match h3:T.enc (xs.getD j (xs.getD j x')),h2 with
      | [c],_=>rw [he];rfl)
    simpa [hT] using this
  refine Dk hs hx hy (T.one x' u (by rw [he];simp)) ho (by rw [T.cr,hT];omega) fun w' h=>k w' ?_
  unfold ag
  rw [List.length_set,←rv]
  exact h
theorem BD {s x:Operand} {t e:TypeId} {sz b c cx:Nat} {z:Value} {a A:aP} {xs ys:List α} (hT:T.sz=sz) (ht:P.underlying t=some (.slice e)) (hs:bX P e=some (sz,b,some z)) (Oy:z.cells.size=sz)
    (RN:ev Γ s=some (.slice a xs.length c)) (hx:ev Γ x=some (.slice A ys.length cx)) (ho:w.ownsRow 0 e T.sz (.slice a xs.length c) xs.length (T.all xs)) (hr:bz T w (.slice A ys.length cx) ys) (hb:(xs.length+ys.length)*b≤140737488355328) (kW:xs.length+ys.length≤9223372036854775807)
    (k:∀a' c' w',ax w [ag T (.slice a xs.length c) e xs] w' [ag T (.slice a' (xs++ys).length c') e (xs++ys)]→K (.slice a' (xs++ys).length c') w'):aq P Γ w (.call { callee:= .builtin .append,args:= #[s,x],argTypes:= #[t,t] }) ty K:=by
  subst hT
  refine NG ht hs Oy (of_eq_true (Eq.trans Nat.blt_eq (eq_true T.pos))) RN hx ho hr (T.Im ys) hb kW fun a' c' w' h=>?_
  have:=k a' c' w'
  unfold ag at this
  rw [List.length_append,T.all_append] at this
  exact this h
theorem Su {g:Nat} {cs:Array Value} {e:TypeId} {w':World} {xs:List α} {sz:Nat} (_hT:T.sz=sz) (h:ax w [] w' [row (.slice (some ⟨g,0,none⟩) xs.length xs.length) e sz xs.length cs.toList]) (hc:cs.toList=T.all xs):ax w [] w' [ag T (.slice (some ⟨g,0,none⟩) xs.length xs.length) e xs]:=by
  unfold ag
  rw [_hT,←hc]
  exact h
theorem zw {t e:TypeId} {len sz b:Nat} {z:Value} {ps:Array (Nat×Operand)} {vs:List (Nat×Value)} {cs:Array Value} {xs:List α} (hT:T.sz=sz) (ht:P.underlying t=some (.slice e)) (hs:bX P e=some (sz,b,some z)) (hp:J1 Γ ps.toList=some vs) (hlen:xs.length=len)
    (sG:Nat.ble (len*sz) 16777216=true) (An:Nat.beq (len*sz) 0=false)
    (hf:Instr.fill (fun i=>some (i*sz,sz)) ((Array.range (len*sz)).map (z.cells[· %z.cells.size]!)) vs=some cs) (VP:cs.size=len*sz) (JH:cs.toList=T.all xs)
    (k:∀w',ax w [] w' [ag T (.slice (some ⟨w.heap.size,0,none⟩) xs.length xs.length) e xs]→K (.slice (some ⟨w.heap.size,0,none⟩) xs.length xs.length) w'):aq P Γ w (.buildSlice t len ps) ty K:=by
  subst hlen
  exact AJ ht hs hp sG An hf VP fun w' h=>k w' (Su hT h JH)
theorem pN {t e:TypeId} {sz b:Nat} {z:Option Value} (hT:T.sz=sz) (ht:P.underlying t=some (.slice e)) (hs:bX P e=some (sz,b,z))
    (k:∀w',ax w [] w' [ag T (.slice (some ⟨w.heap.size,0,none⟩) ([]:List α).length 0) e []]→K (.slice (some ⟨w.heap.size,0,none⟩) ([]:List α).length 0) w'):aq P Γ w (.buildSlice t 0 #[]) ty K:=
  xO ht hs fun w' h=>k w' (by unfold ag;rw [hT];exact h)
theorem pQ {z:Value} {d:α} (hz:z.cells.toList=T.enc d) (n:Nat):(madeCells z.cells (n*T.sz)).toList=T.all (List.replicate n d):=by
  have Oy:z.cells.size=T.sz:=by rw [←Array.length_toList,hz,T.len]
  apply List.ext_getElem?
  intro m
  by_cases hm:m<n*T.sz
  · have h1:m=(m/T.sz)*T.sz+m%T.sz:=by rw [Nat.mul_comm];exact (Nat.div_add_mod m T.sz).symm
    have h2:m%T.sz<T.sz:=Nat.mod_lt _ T.pos
    have h3:m/T.sz<n:=Nat.div_lt_of_lt_mul (by rw [Nat.mul_comm];exact hm)
    have h4:=T.oG d (List.replicate n d) (m/T.sz) (m%T.sz) (by simpa using h3) h2
    rw [←h1] at h4
    rw [h4]
    have h5:(List.replicate n d).getD (m/T.sz) d=d:=by simp [List.getD_eq_getElem?_getD,h3]
    rw [h5,←hz]
    have h6:m%z.cells.size<z.cells.size:=by rw [Oy];exact h2
    simp [madeCells,hm,Oy,h2]
  · rw [List.getElem?_eq_none (by simp [madeCells];omega),List.getElem?_eq_none (by rw [T.cr];simp;omega)]
theorem jo {t e:TypeId} {x y:Operand} {kx ky:IntKind} {sz b:Nat} {z:Value} {l:Int} (n:Nat) (d:α) (hT:T.sz=sz) (ht:P.underlying t=some (.slice e)) (hs:bX P e=some (sz,b,some z)) (hz:z.cells.toList=T.enc d) (hx:ev Γ x=some (.int kx l)) (hy:ev Γ y=some (.int ky l))
    (hl:l=((n:Nat):Int)) (hb:b*n≤140737488355328) (hc:n≤9223372036854775807)
    (k:∀w',ax w [] w' [ag T (.slice (some ⟨w.heap.size,0,none⟩) (List.replicate n d).length n) e (List.replicate n d)]→K (.slice (some ⟨w.heap.size,0,none⟩) (List.replicate n d).length n) w'):aq P Γ w (.makeSlice t x y) ty K:=by
  subst hl hT
  have Be:(b:Int)*(n:Int)≤140737488355328:=by
    have h:((b*n:Nat):Int)≤140737488355328:=by omega
    rwa [Int.natCast_mul] at h
  refine Ns ht hs hx hy oz (Int.le_refl _) Be oz fun w' h=>?_
  have:=k w'
  unfold ag at this
  rw [List.length_replicate,←pQ hz] at this
  simp only [Int.toNat_natCast] at h ⊢
  refine this ?_
  rw [List.take_of_length_le (by simp [size_madeCells])] at h
  exact h
theorem OR {t e:TypeId} {x y:Operand} {kx ky:IntKind} {sz b:Nat} {z:Value} {l:Int} (n:Nat) (hT:T.sz=sz) (ht:P.underlying t=some (.slice e)) (hs:bX P e=some (sz,b,some z)) (hx:ev Γ x=some (.int kx 0)) (hy:ev Γ y=some (.int ky l))
    (hl:l=((n:Nat):Int)) (hb:b*n≤140737488355328) (hc:n≤9223372036854775807)
    (k:∀w',ax w [] w' [ag T (.slice (some ⟨w.heap.size,0,none⟩) ([]:List α).length n) e []]→K (.slice (some ⟨w.heap.size,0,none⟩) ([]:List α).length n) w'):aq P Γ w (.makeSlice t x y) ty K:=by
  subst hl hT
  have Be:(b:Int)*(n:Int)≤140737488355328:=by
    have h:((b*n:Nat):Int)≤140737488355328:=by omega
    rwa [Int.natCast_mul] at h
  refine Ns ht hs hx hy (Int.le_refl _) oz Be oz fun w' h=>?_
  simp only [Int.toNat_natCast,Int.toNat_zero,Nat.zero_mul,List.take_zero] at h ⊢
  exact k w' h
theorem ax.zW (w:World) (T:Ty α) (e:TypeId):ax w [] w [ag T (.slice none ([]:List α).length 0) e []]:=by
  refine ⟨⟨fun c hc=>?_,by simp [dn,ag,row,Value.ownBlock]⟩,cM.refl _ _,fun g hg=>by simp [dn,ag,row,Value.ownBlock] at hg⟩
  simp only [List.mem_singleton] at hc
  subst hc
  exact ⟨by simp [Ty.all],.inl ⟨rfl,rfl⟩⟩
end
section
variable {P:Program} {n:Nat} {ops:Array Oper} {Q:Exit→Act→World→Prop} {Γ:Env} {w:World} {ty:TypeId} {K:Value→World→Prop}
theorem W.ab5 {c:Operand} {x y:Code} {b:Bool} (hc:ev Γ c=some (.bool b)) (h1:b=true→W P n x Q Γ w) (h2:¬b=true→W P n y Q Γ w):W P n (.cond c x y) Q Γ w:=by
  cases b
  · exact W.iff hc (h2 (by simp))
  · exact W.ift hc (h1 rfl)
def bt (s:ByteArray) (j:Nat):Int:=((s.data.toList.getD j 0).toNat:Int)
theorem J4 {t:TypeId} {x ix:Operand} {s:ByteArray} {kd:IntKind} {i:Int} (j:Nat) (ht:P.underlying t=some .string) (hx:ev Γ x=some (.string s)) (hi:ev Γ ix=some (.int kd i)) (cD:i=((j:Nat):Int)) (hj:j<s.size) (k:K (.int .u8 (bt s j)) w):aq P Γ w (.index t x ix) ty K:=by
  subst cD
  refine Ny ht hx hi oz (by simpa using hj) ?_
  have:(((s[((j:Nat):Int).toNat]'(by simpa using hj)).toNat:Nat):Int)=bt s j:=by
    have h2:j<s.data.size:=hj
    have h3:s.data.toList.getD j 0=s.data[j]'h2:=by rw [List.getD_eq_getElem?_getD,Array.getElem?_toList,Array.getElem?_eq_getElem h2];rfl
    unfold bt
    rw [h3]
    simp only [Int.toNat_natCast]
    rfl
  rw [this];exact k
theorem lZ {t:TypeId} {x:Operand} {lo hi:Option Operand} {KP KQ:Option Value} {s:ByteArray} (l h:Int) (ln hn:Nat) (ht:P.underlying t=some .string) (hx:ev Γ x=some (.string s)) (Ao:Dc Γ lo=some KP) (JP:Dc Γ hi=some KQ)
    (el:KP=none∧l=0∨∃kd,KP=some (.int kd l)) (eh:KQ=none∧h=s.size∨∃kd,KQ=some (.int kd h)) (hl:l=((ln:Nat):Int)) (hh:h=((hn:Nat):Int)) (hk:QQ l h s.size) (k:K (.string (s.extract ln hn)) w):aq P Γ w (.slice t x lo hi none) ty K:=by
  subst hl hh
  exact Nn _ _ ht hx Ao JP el eh hk (by simpa using k)
theorem HQ {x y:Operand} {ts:Array TypeId} {kd:IntKind} {a b:Int} (hx:ev Γ x=some (.int kd a)) (hy:ev Γ y=some (.int kd b)) (k:K (.int kd (min a b)) w):aq P Γ w (.call { callee:= .builtin .min,args:= #[x,y],argTypes:=ts }) ty K:=
  aq.of_run (fun ρ hρ=>by
    have:(if b<a then b else a)=min a b:=by split<;>omega
    simp [ex,execOp,hρ x _ hx,hρ y _ hy,resolve,invoke,builtin,Builtin.min_,Builtin.min2,this]) k
theorem WL.abz {rest:List Oper} {op:Op} {ty:TypeId} {pos:String} {after:Array Edge} {j t:Nat} {want:Bool} (hj:(ops[j]?).bind (·.dst)=some t) (hv:look Γ t=some (.bool want))
    (h:aq P Γ w op ty fun _ w'=>WL P n ops Q rest Γ w'):WL P n ops Q ({ dst:=none,op,type:=ty,pos,after,guard:=some (j,want) } ::rest) Γ w:=
  fun a ha=>by
    unfold wpList
    rw [if_pos (by rw [oL ha rfl hj hv];simp)]
    exact .inl (h.wp ha fun v w' k=>k _ (ha.SN v))
theorem Ic {a:Act} {t:Nat} {b c:Bool} (ha:cR n a Γ) (ht:look Γ t=some (.bool b)) (hb:b=c):cR n a ((t,.bool c)::Γ):=
  ha.sub fun u v e=>by
    by_cases hu:t=u
    · subst hu;rw [du] at e;rw [ht,hb];exact e
    · rwa [c0 _ _ hu] at e
theorem WL.LN {l:List Oper} (t:Nat) {b:Bool} (ht:look Γ t=some (.bool b)) (h1:b=true→WL P n ops Q l ((t,.bool true)::Γ) w) (h2:¬b=true→WL P n ops Q l ((t,.bool false)::Γ) w):WL P n ops Q l Γ w:=
  fun a ha=>by
    cases hb:b
    · exact h2 (by simp [hb]) a (Ic ha ht hb)
    · exact h1 hb a (Ic ha ht hb)
theorem WD.LN {T:List Nat} {Pn:List pf} (t:Nat) {b:Bool} (ht:look Γ t=some (.bool b)) (h1:b=true→WD P n ops Q T Pn ((t,.bool true)::Γ) w) (h2:¬b=true→WD P n ops Q T Pn ((t,.bool false)::Γ) w):WD P n ops Q T Pn Γ w:=
  WD.part t (p:=b=true) (by rw [ht];simp) h1 h2
theorem U5 {p:Nat→Prop} {a b:Nat} (h1:p a) (h2:p b):∀j,j∈[a,b]→p j:=by
  intro j hj;simp only [List.mem_cons,List.not_mem_nil,or_false] at hj;rcases hj with rfl|rfl<;>assumption
theorem zK {α:Type} {R:α→α→Prop} (hs:∀a b,R a b→R b a) {F M:List α} {l:List Nat} (hl:l.map (fun i=>F[i]?)=M.map some) (hn:l.Nodup) (hF:F.Pairwise R):M.Pairwise R:=by
  rw [List.pairwise_iff_getElem] at hF ⊢
  have hlen:l.length=M.length:=by simpa using congrArg List.length hl
  have r9:∀i (h:i<M.length),∃h2:l[i]'oz<F.length,F[l[i]'oz]'h2=M[i]:=by
    intro i h
    have h1:(l.map (fun i=>F[i]?))[i]?=(M.map some)[i]?:=by rw [hl]
    simp only [List.getElem?_map,List.getElem?_eq_getElem (show i<l.length by omega),List.getElem?_eq_getElem h,Option.map_some,Option.some.injEq] at h1
    obtain ⟨h2,h3⟩:=List.getElem?_eq_some_iff.1 h1
    exact ⟨h2,h3⟩
  intro i j hi hj cD
  obtain ⟨a1,a2⟩:=r9 i hi
  obtain ⟨b1,b2⟩:=r9 j hj
  have bm:l[i]'oz≠l[j]'oz:=fun e=>by
    have:=(List.getElem_inj hn).1 e
    omega
  rw [←a2,←b2]
  rcases Nat.lt_or_gt_of_ne bm with h|h
  · exact hF _ _ a1 b1 h
  · exact hs _ _ (hF _ _ b1 a1 h)
theorem ax.iW {w w':World} {L M:List Chunk} {G:List (List Chunk)} (h:av w L w' G) {l:List Nat} (hl:l.map (fun i=>G.flatten[i]?)=M.map some) (hn:decide l.Nodup=true):ax w L w' M:=by
  have qk:∀c,c∈M→c∈G.flatten:=fun c hc=>by
    have:some c∈M.map some:=List.mem_map_of_mem hc
    rw [←hl] at this
    obtain ⟨i,_,hi⟩:=List.mem_map.1 this
    exact List.mem_of_getElem? hi
  refine ⟨⟨fun c hc=>(ax.hp h).holds c (qk c hc),?_⟩,h.keep,fun g hg=>?_⟩
  · have h1:=(ax.hp h).nodup
    unfold dn at h1 ⊢
    rw [List.nodup_iff_pairwise_ne,List.pairwise_flatMap] at h1 ⊢
    exact ⟨fun c hc=>h1.1 c (qk c hc),zK (fun a b FD x hx y hy e=>FD y hy x hx e.symm) hl (of_decide_eq_true hn) h1.2⟩
  · obtain ⟨c,hc,e⟩:=gw.1 hg
    exact ax.fresh h g (gw.2 ⟨c,qk c hc,e⟩)
def GQ (tmps:Array Value) (r:ResultVar):Sem Value:=match r with| .tmp t=>pure (tmps.getD t undef)| .cell a t=>do loadVar t (←asAddr (tmps.getD a undef))
theorem qb (fn:Func) (tmps:Array Value):results fn tmps=(do let vs←fn.results.mapM (GQ tmps);pure (if h:vs.size=1 then vs[0] else .tuple vs)):=rfl
def pI (P:Program) (Γ:Env) (w:World) (r:ResultVar) (v:Value):Prop:=
  ∀tmps:Array Value,(∀t u,look Γ t=some u→tmps.getD t undef=u)→Sem.run P (GQ tmps r) w= .ok v w
theorem SF {t:Tmp} {v:Value} (h:look Γ t=some v):pI P Γ w (.tmp t) v:=fun tmps ht=>by simp only [GQ,ht t v h];rfl
theorem Lo {a:Tmp} {t:TypeId} {d:TypeDesc} {g off s b:Nat} {z:Option Value} {cs:Array Value} {e:TypeId} (us:List Value) (hu:P.underlying t=some d) (hd:kP d=true) (hs:bX P t=some (s,b,z)) (h:look Γ a=some (.pointer (some ⟨g,off,none⟩))) (hb:w.heap[g]?=some (.cells cs e (0,0)))
    (hl:us.length=s) (hc:(cs.toList.drop off).take s=us):pI P Γ w (.cell a t) (.agg us.toArray):=fun tmps ht=>by
  simp only [GQ,ht a _ h,asAddr,loadVar]
  have yV:∀j v,us[j]?=some v→w.cell? ((⟨g,off,none⟩:Addr).add j)=some v:=fun j u hj=>by
    rw [ld,ij hb]
    rw [←hc,List.getElem?_take] at hj
    split at hj
    · simpa using hj
    · cases hj
  subst hl
  simp [jW hu,hd,kf hs,run_loadCells_list (P:=P) (w:=w) _ us yV]
theorem X.WA {fn:Func} {R:Value→World→Prop} {r1:ResultVar} (hr:fn.results= #[r1]) {v1:Value} (h1:pI P Γ w r1 v1) (h:R v1 w):X n (bodyPost P fn (aX R)) .ret Γ w:=
  fun a ha=>bodyPost_ret (v:=v1) (by
    have e1:=h1 a.tmps ha.slot
    simp [qb,hr,e1]) ha.defers ⟨_,rfl,h⟩
theorem X.Wz {fn:Func} {R:Value→World→Prop} {r1 r2:ResultVar} (hr:fn.results= #[r1,r2]) {v1 v2:Value} (h1:pI P Γ w r1 v1) (h2:pI P Γ w r2 v2) (h:R (.tuple #[v1,v2]) w):X n (bodyPost P fn (aX R)) .ret Γ w:=
  fun a ha=>bodyPost_ret (v:= .tuple #[v1,v2]) (by
    have e1:=h1 a.tmps ha.slot
    have e2:=h2 a.tmps ha.slot
    simp [qb,hr,e1,e2]) ha.defers ⟨_,rfl,h⟩
theorem av.CQ {w w':World} {L A B:List Chunk} {G:List (List Chunk)} (h:av w L w' G) (i j:Nat) (cD:Nat.beq i j=false) (hi:G[i]?=some A) (hj:G[j]?=some B):Hp w' (A++B):=by
  have bm:i≠j:=by intro e;subst e;simp at cD
  have p1:=gZ G i A hi
  have p2:=gZ (G.set i []) j B (by rw [List.getElem?_set_ne bm];exact hj)
  have h1:=(Hp.perm (ax.hp h) (p1.trans (p2.append_left A)))
  rw [←List.append_assoc] at h1
  exact h1.left
theorem av.fE {w w1 w2:World} {L A B A' B' C:List Chunk} {G:List (List Chunk)} (h:av w L w1 G) (i j:Nat) (cD:Nat.beq i j=false) (hi:G[i]?=some A) (hj:G[j]?=some B) (k:ax w1 (A++B) w2 (A'++B'++C)):av w L w2 ((G.set i A').set j B'++[C]):=by
  have bm:i≠j:=by intro e;subst e;simp at cD
  have XX:(G.set i [])[j]?=some B:=by rw [List.getElem?_set_ne bm];exact hj
  have p1:=gZ G i A hi
  have p2:=gZ (G.set i []) j B XX
  have p:=p1.trans (p2.append_left A)
  rw [←List.append_assoc] at p
  have u:=ax.frame (ax.perm h p) k
  refine ax.perm u ?_
  have aio:((G.set i A').set j [])[j]?=some []:=by
    have:j<G.length:=(List.getElem?_eq_some_iff.1 hj).1
    simp [this]
  have q1:=lM (G.set i []) j B B' XX
  have KF:((G.set i []).set j B')[i]?=some []:=by
    have:i<G.length:=(List.getElem?_eq_some_iff.1 hi).1
    rw [List.getElem?_set_ne (Ne.symm bm)];simp [this]
  have q2:=lM ((G.set i []).set j B') i [] A' KF
  have e1:((G.set i []).set j B').set i []=(G.set i []).set j B':=by rw [List.set_comm _ _ (Ne.symm bm),List.set_set]
  have e2:((G.set i []).set j B').set i A'=(G.set i A').set j B':=by rw [List.set_comm _ _ (Ne.symm bm),List.set_set]
  rw [e1,e2] at q2
  simp only [List.flatten_append,List.flatten_cons,List.flatten_nil,List.append_nil]
  refine List.Perm.trans ?_ (q2.append_right C)
  refine List.Perm.trans ?_ ((q1.append_left A').append_right C)
  simp only [List.append_assoc]
  refine List.Perm.append_left A' (List.Perm.append_left B' ?_)
  exact List.perm_append_comm
theorem av.onX {w w1 w2:World} {L A B C:List Chunk} {G:List (List Chunk)} (h:av w L w1 G) (i:Nat) (hi:G[i]?=some A) (k:ax w1 A w2 (B++C)):av w L w2 (G.set i B++[C]):=by
  refine ax.perm (ax.frame (ax.perm h (gZ G i A hi)) k) ?_
  simp only [List.flatten_append,List.flatten_cons,List.flatten_nil,List.append_nil,List.append_assoc]
  refine List.Perm.trans ?_ ((lM G i A B hi).append_right C)
  rw [List.append_assoc]
  exact List.Perm.append_left B List.perm_append_comm
theorem BC {α:Type} {T:Ty α} {t e:TypeId} {x hi:Operand} {kd:IntKind} {a:aP} {c sz b:Nat} {z:Option Value} {xs:List α} (h:Int) (hn:Nat) (hT:T.sz=sz) (ht:P.underlying t=some (.slice e)) (hs:bX P e=some (sz,b,z)) (hx:ev Γ x=some (.slice a xs.length c)) (hh:ev Γ hi=some (.int kd h))
    (ho:w.ownsRow 0 e T.sz (.slice a xs.length c) xs.length (T.all xs)) (cD:h=((hn:Nat):Int)) (hle:hn≤xs.length) (k:∀w',ax w [ag T (.slice a xs.length c) e xs] w' [ag T (.slice a (xs.take hn).length c) e (xs.take hn)]→K (.slice a (xs.take hn).length c) w'):aq P Γ w (.slice t x none (some hi) none) ty K:=by
  subst cD hT
  have hlen:(xs.take hn).length=hn:=by simp;omega
  have hc:xs.length≤c:=by
    rcases ho.2 with ⟨h1,h2⟩|⟨g,cap,cur,h1,_,_,h2,_⟩
    · omega
    · injection h1 with _ _ h1;omega
  have key:=k w
  rw [hlen] at key
  refine AB 0 (hn:Int) ht hs hx rfl (by simp [Dc,hh]) (.inl ⟨rfl,rfl⟩) (.inr ⟨kd,rfl⟩) ⟨by omega,by omega,by omega⟩ ?_
  have e1:dR (.slice a xs.length c) T.sz (0:Int).toNat ((hn:Nat):Int).toNat= .slice a hn c:=by
    simp only [dR,Int.toNat_zero,Int.toNat_natCast,Nat.zero_mul,Nat.sub_zero]
    split
    · rfl
    · cases a<;>simp [Addr.add]
  rw [e1]
  refine key ?_
  have ho':w.ownsRow 0 e T.sz (.slice a hn c) hn (T.all (xs.take hn))∨(a=none∧hn=0∧c=0):=by
    rcases ho.2 with ⟨h1,h2⟩|⟨g,cap,cur,h1,h3,h4,h5,h6,h7,h8⟩
    · injection h1 with h1 _ h3
      exact .inr ⟨h1,by omega,h3⟩
    · injection h1 with h1 _ h9
      subst h1 h9
      refine .inl ⟨by rw [T.cr,hlen],.inr ⟨g,c,cur,rfl,h3,h4,by omega,h6,h7,?_⟩⟩
      have:T.all (xs.take hn)=(T.all xs).take (hn*T.sz):=by
        have e3:T.all xs=T.all (xs.take hn)++T.all (xs.drop hn):=by rw [←T.all_append,List.take_append_drop]
        have e4:(T.all (xs.take hn)).length=hn*T.sz:=by rw [T.cr,hlen]
        rw [e3,←e4,List.take_left]
      rw [this,←h8,List.take_take,Nat.min_eq_left (Nat.mul_le_mul_right _ hle)]
  have VI:w.ownsRow 0 e T.sz (.slice a hn c) hn (T.all (xs.take hn)):=by
    rcases ho' with h1|⟨rfl,rfl,rfl⟩
    · exact h1
    · exact ⟨by simp [Ty.all],.inl ⟨rfl,rfl⟩⟩
  unfold ag
  rw [hlen]
  refine ⟨⟨fun c' D6=>?_,?_⟩,cM.refl _ _,fun g hg=> .inl ?_⟩
  · simp only [List.mem_singleton] at D6;subst D6;exact oW VI
  · cases a<;>simp [dn,row,Value.ownBlock]
  · cases a with
    | none=>simp [dn,row,Value.ownBlock] at hg
    | some a=>simpa [dn,row,Value.ownBlock] using hg
end
theorem eC {α:Type} {T:Ty α} {e:TypeId} {w w':World} {L:List Chunk} {G:List (List Chunk)} (h:av w L w' G):ax w L w' [ag T (.slice none ([]:List α).length 0) e []]:=
  ((av.of (G:=[]) h.af rfl).iZ (ax.zW w' T e)).one 0 rfl
theorem bz.L8 {α:Type} {T:Ty α} {w:World} {a:aP} {n c:Nat} {xs:List α} (h:bz T w (.slice a n c) xs) (ha:a=none):xs=[]:=by
  obtain ⟨A,cap,he,hl,_,hr⟩:=h
  subst ha;cases he
  cases xs with
  | nil=>rfl
  | cons x xs=>
    have h0:0<(T.all (x::xs)).length:=by rw [hl];exact Nat.mul_pos (by simp) T.pos
    obtain ⟨ad,h1,_⟩:=hr 0 _ (List.getElem?_eq_getElem h0)
    cases h1
section
variable {P:Program} {n:Nat} {ops:Array Oper} {Q:Exit→Act→World→Prop} {Γ:Env} {w:World} {rest:List Oper} {ty:TypeId}
theorem av.pm {w w':World} {L:List Chunk} {G G':List (List Chunk)} (h:av w L w' G) (l:List Nat) (hl:l.map (fun i=>G.flatten[i]?)=G'.flatten.map some) (hn:decide l.Nodup=true):av w L w' G':=av.of (ax.iW h hl hn) rfl
theorem sc {y:Code} (h:W P n y Q Γ w):W P n .skip (Exit.then (y.wp P Q) Q) Γ w:=W.skip (X.yg h)
theorem W.lp {c:Code} (ks:List Nat) {B:Env} {R:List (List Chunk)} {L:List Chunk} (I:Env→List (List Chunk)→List Chunk→Nat→Env→World→Prop) (m:Nat) {Γ':Env} (h0:I B R L m Γ' w) (hk:Sx.pick Γ ks=Γ')
    (round:∀m Γ w,I B R L m Γ w→W P n c (Exit.then (fun a' w'=>∃m',m'<m∧∃Γ',cR n a' Γ'∧I B R L m' Γ' w') Q) Γ w):W P n (.loop c) Q Γ w:=
  W.pick ks hk (W.loop (I B R L) m h0 round)
theorem W.ct {x y:Code} {B:Env} {R G:List (List Chunk)} {L:List Chunk} {w0:World} (bs:List Nat) (k:Nat) (hB:Sx.pick Γ bs=B) (hH:av w0 L w G) (hR:G.drop k=R) (I:Env→List (List Chunk)→List Chunk→Env→World→Prop) (h1:W P n x (Exit.then (fun a' w'=>∃Γ',cR n a' Γ'∧I B R L Γ' w') Q) Γ w) (h2:∀Γ w,I B R L Γ w→W P n y Q Γ w):W P n (.seq x y) Q Γ w:=W.cut (I B R L) h1 h2
theorem tq {T:List Nat} {Pn:List pf} (bB:eT ops=true) (k:Nat) {o:Oper} {d:Nat} {v:Value} (ho:ops[k]?=some o) (hd:o.dst=some d) (hD:∀w',aq P Γ w' o.op o.type fun v' kR=>v'=v∧kR=w')
    (h:WD P n ops Q (k::T) (⟨k,v,fun _=>True⟩::Pn) ((d,v)::Γ) w) (Au:Nat.blt d n=true:=by rfl) (hT:T.contains k=false:=by rfl) (qj:(cL ops k).all T.contains=true:=by rfl) (hw:kQ ops Γ o=some true:=by rfl):WD P n ops Q T Pn Γ w:=
  WD.take bB k v (fun _=>True) ho hd Au hT qj trivial (.inl ⟨hw,fun w' _=>hD w'⟩) h
theorem tu {T:List Nat} {Pn:List pf} (bB:eT ops=true) (k:Nat) {o:Oper} {d:Nat} (ho:ops[k]?=some o) (hd:o.dst=some d)
    (h:WD P n ops Q (k::T) (⟨k,undef,fun _=>True⟩::Pn) ((d,undef)::Γ) w) (Au:Nat.blt d n=true:=by rfl) (hT:T.contains k=false:=by rfl) (qj:(cL ops k).all T.contains=true:=by rfl) (hw:kQ ops Γ o=some false:=by rfl):WD P n ops Q T Pn Γ w:=
  WD.take bB k undef (fun _=>True) ho hd Au hT qj trivial (.inr ⟨hw,rfl⟩) h
theorem tw {T:List Nat} {Pn:List pf} (bB:eT ops=true) (k:Nat) (C:World→Prop) (hC:C w) {o:Oper} {d:Nat} {v:Value} (ho:ops[k]?=some o) (hd:o.dst=some d) (hD:∀w',C w'→aq P Γ w' o.op o.type fun v' kR=>v'=v∧kR=w')
    (h:WD P n ops Q (k::T) (⟨k,v,C⟩::Pn) ((d,v)::Γ) w) (Au:Nat.blt d n=true:=by rfl) (hT:T.contains k=false:=by rfl) (qj:(cL ops k).all T.contains=true:=by rfl) (hw:kQ ops Γ o=some true:=by rfl):WD P n ops Q T Pn Γ w:=
  WD.take bB k v C ho hd Au hT qj hC (.inl ⟨hw,hD⟩) h
theorem tr {α:Type} {U:Ty α} {v0:Value} {xs:List α} {T:List Nat} {Pn:List pf} (bB:eT ops=true) (k:Nat) (hC:bz U w v0 xs) {o:Oper} {d:Nat} {v:Value} (ho:ops[k]?=some o) (hd:o.dst=some d) (hD:∀w',bz U w' v0 xs→aq P Γ w' o.op o.type fun v' kR=>v'=v∧kR=w')
    (h:WD P n ops Q (k::T) (⟨k,v,fun w'=>bz U w' v0 xs⟩::Pn) ((d,v)::Γ) w) (Au:Nat.blt d n=true:=by rfl) (hT:T.contains k=false:=by rfl) (qj:(cL ops k).all T.contains=true:=by rfl) (hw:kQ ops Γ o=some true:=by rfl):WD P n ops Q T Pn Γ w:=
  WD.take bB k v _ ho hd Au hT qj hC (.inl ⟨hw,hD⟩) h
theorem tb {g:Nat} {ob:Obj} {T:List Nat} {Pn:List pf} (bB:eT ops=true) (k:Nat) (hC:w.heap[g]?=some ob) {o:Oper} {d:Nat} {v:Value} (ho:ops[k]?=some o) (hd:o.dst=some d) (hD:∀w',w'.heap[g]?=some ob→aq P Γ w' o.op o.type fun v' kR=>v'=v∧kR=w')
    (h:WD P n ops Q (k::T) (⟨k,v,fun w'=>w'.heap[g]?=some ob⟩::Pn) ((d,v)::Γ) w) (Au:Nat.blt d n=true:=by rfl) (hT:T.contains k=false:=by rfl) (qj:(cL ops k).all T.contains=true:=by rfl) (hw:kQ ops Γ o=some true:=by rfl):WD P n ops Q T Pn Γ w:=
  WD.take bB k v (fun w'=>w'.heap[g]?=some ob) ho hd Au hT qj hC (.inl ⟨hw,hD⟩) h
theorem lo {T:List Nat} {Pn:List pf} {j:Nat} {o:Oper} (Og:List pf) (ho:ops[j]?=some o) (hf:Pn.filter (fun p=> !(DJ ops j).contains p.k)=Og)
    (hD:aq P Γ w o.op o.type fun v w'=>Still w' Og∧WD P n ops Q (j::T) Og (B3 Γ o.dst v) w') (hT:T.contains j=false:=by rfl) (hp:(cL ops j).all T.contains=true:=by rfl)
    (hd:(match o.dst with|some d=>Nat.blt d n|none=>true)=true:=by rfl) (hw:kQ ops Γ o=some true:=by rfl):Oh P n ops Q T Pn Γ w j:=⟨o,Og,ho,hT,hp,hd,hw,hf,hD⟩
theorem wo {T:List Nat} {Pn:List pf} (bB:eT ops=true) (j:Nat) (h:Oh P n ops Q T Pn Γ w j) (CR:((List.range ops.size).all fun i=>[j].contains i||T.contains i|| !((cL ops i).all T.contains))=true:=by rfl):WD P n ops Q T Pn Γ w:=WD.Xk bB j CR h
end
theorem im {p:Prop} (h:p:=by simp;omega):p:=h
def mX:Value→Value→Bool
  | .int _ a,.int _ b=>decide (a=b)
  | .string a,.string b=>decide (a=b)
  | .bool a,.bool b=>decide (a=b)
  | _,_=>true
def jQ:List Value→List Value→Bool
  | [x],[y]=>mX x y
  | x::xs,y::ys=>mX x y&&jQ xs ys
  | _,_=>true
def rE (P:Program) (t:TypeId) (x y:Value):Bool:=
  match P.underlying t,x,y with
  | some (.int k),.int a _,.int b _=>decide (a=k)&&decide (b=k)
  | some .bool,.bool _,.bool _=>true
  | some .string,.string _,.string _=>true
  | _,_,_=>false
def qq (P:Program):Nat→List Field→List Value→List Value→Bool
  | _,[],[],[]=>true
  | i,f::fs,x::xs,y::ys=>(f.name != "_")&&(Nat.beq f.offset i)&&rE P f.type x y&&qq P (i+1) fs xs ys
  | _,_,_,_=>false
section
variable {P:Program} {Γ:Env} {w:World} {ty:TypeId} {K:Value→World→Prop}
theorem te {t:TypeId} {x y:Value} {d o:Nat} {X Y:Array Value} (h:rE P t x y=true) (hx:X[o]?=some x) (hy:Y[o]?=some y):
    (part t X o).run P w= .ok x w∧(part t Y o).run P w= .ok y w∧(Op.equalIn (d+1) t x y).run P w= .ok (mX x y) w:=by
  unfold rE at h
  split at h
  · rename_i k a n b m hu
    simp only [Bool.and_eq_true,decide_eq_true_eq] at h
    obtain ⟨rfl,rfl⟩:=h
    refine ⟨?_,?_,?_⟩
    · simp [part,isAgg,run_underlying hu,hx]
    · simp [part,isAgg,run_underlying hu,hy]
    · simp [Op.equalIn,run_underlying hu,mX];rfl
  · rename_i a b hu
    refine ⟨?_,?_,?_⟩
    · simp [part,isAgg,run_underlying hu,hx]
    · simp [part,isAgg,run_underlying hu,hy]
    · simp [Op.equalIn,run_underlying hu,mX];rfl
  · rename_i a b hu
    refine ⟨?_,?_,?_⟩
    · simp [part,isAgg,run_underlying hu,hx]
    · simp [part,isAgg,run_underlying hu,hy]
    · have:=run_equalIn_string (P:=P) w d t a b hu
      rw [this];simp [mX,toList_inj]
  · cases h
theorem BM {d:Nat} {X Y:Array Value} :∀ {fs:List Field} {i:Nat} {xs ys:List Value},qq P i fs xs ys=true→(∀j,j<xs.length→X[i+j]?=xs[j]?)→(∀j,j<ys.length→Y[i+j]?=ys[j]?)→
    (Op.eqFields (d+1) X Y fs).run P w= .ok (jQ xs ys) w
  | [],i,[],[],_,_,_=>by simp [Op.eqFields,jQ]
  | f::fs,i,x::xs,y::ys,h,hx,hy=>by
    simp only [qq,Bool.and_eq_true,bne_iff_ne,ne_eq] at h
    obtain ⟨⟨⟨hn,ho⟩,h1⟩,h2⟩:=h
    have ho:=Nat.eq_of_beq_eq_true ho
    have ex:=hx 0 (by simp);have ey:=hy 0 (by simp)
    simp only [Nat.add_zero,List.getElem?_cons_zero] at ex ey
    obtain ⟨p1,p2,p3⟩:=te (w:=w) (d:=d) (o:=f.offset) h1 (by rw [ho];exact ex) (by rw [ho];exact ey)
    have ih:=BM (d:=d) (X:=X) (Y:=Y) h2 (fun j hj=>by have:=hx (j+1) im;rw [show i+1+j=i+(j+1) by omega,this];simp) (fun j hj=>by have:=hy (j+1) im;rw [show i+1+j=i+(j+1) by omega,this];simp)
    have hc:jQ (x::xs) (y::ys)=(mX x y&&jQ xs ys):=by
      cases xs<;>cases ys<;>simp [jQ]
    simp only [Op.eqFields,ne_eq,hn,not_false_eq_true,if_true,Sem.run_bind,p1,p2,p3,Result.andThen_ok,hc]
    cases hb:mX x y
    · simp
    · simp [ih]
theorem IX {t:TypeId} {xs ys:List Value} (ht:P.underlying t=some (.struct (P.fieldsOf t))) (hp:P.stoodInHeld t=false) (h:qq P 0 (P.fieldsOf t).toList xs ys=true):
    (Op.equalIn 10000 t (.agg xs.toArray) (.agg ys.toArray)).run P w= .ok (jQ xs ys) w:=by
  rw [run_equalIn_struct w 9999 t xs.toArray ys.toArray ht hp]
  exact BM (d:=9998) h (fun j hj=>by simp) (fun j hj=>by simp)
end
def ao {α:Type} (f:α→Chunk) (l:List α):Chunk:=many (l.map f)
theorem bz.len {α:Type} {T:Ty α} {w:World} {a:aP} {n c:Nat} {xs:List α} (h:bz T w (.slice a n c) xs):n=xs.length:=by
  obtain ⟨A,cap,e,_⟩:=h
  cases e;rfl
theorem ff {α:Type} {T:Ty α} {P:Program} {Γ:Env} {w:World} {ty:TypeId} {K:Value→World→Prop} {s x:Operand} {t e:TypeId} {sz b c cx n m:Nat} {z:Value} {a A:aP} {xs ys:List α} (hT:T.sz=sz) (ht:P.underlying t=some (.slice e)) (hs:bX P e=some (sz,b,some z)) (Oy:z.cells.size=sz)
    (RN:ev Γ s=some (.slice a n c)) (hx:ev Γ x=some (.slice A m cx)) (hn:n=xs.length) (ho:w.ownsRow 0 e T.sz (.slice a n c) xs.length (T.all xs)) (hr:bz T w (.slice A m cx) ys) (hb:(xs.length+ys.length)*b≤140737488355328) (kW:xs.length+ys.length≤9223372036854775807)
    (k:∀a' c' w',ax w [ag T (.slice a n c) e xs] w' [ag T (.slice a' (xs++ys).length c') e (xs++ys)]→K (.slice a' (xs++ys).length c') w'):aq P Γ w (.call { callee:= .builtin .append,args:= #[s,x],argTypes:= #[t,t] }) ty K:=by
  subst hn
  have hm:=hr.len
  subst hm
  exact BD hT ht hs Oy RN hx ho hr hb kW k
structure eK (σ α:Type) where
  T:Ty α
  e:TypeId
  A:σ→aP
  C:σ→Nat
  X:σ→List α
  N:σ→Nat
section
variable {σ α:Type} {w w':World} {L:List Chunk} {G:List (List Chunk)}
def eK.row (I:eK σ α) (p:σ):Chunk:=ag I.T (.slice (I.A p) (I.N p) (I.C p)) I.e (I.X p)
def eK.Rd (I:eK σ α) (w:World) (ps:List σ):Prop:=∀p,p∈ps→bz I.T w (.slice (I.A p) (I.N p) (I.C p)) (I.X p)
theorem ax.mF {β:Type} (f:β→Chunk) (w:World):ax w [] w [ao f []]:=
  ⟨⟨fun c hc=>by simp only [List.mem_singleton] at hc;subst hc;exact Hp.nil w,by simp [dn,ao,many]⟩,cM.refl _ _,fun g hg=>by simp [dn,ao,many] at hg⟩
theorem Tq {c:Chunk} (h:c.holds w):Hp w [c]:=⟨fun c' hc=>by simp only [List.mem_singleton] at hc;subst hc;exact h,by simpa [dn] using c.nd w h⟩
theorem Jw {β:Type} {f:β→Chunk} {l:List β} {p:β} {M:List Chunk} (h:Hp w (ao f l::f p::M)):Hp w (ao f (l++[p])::M):=by
  have h1:=(fS (M:=f p::M)).1 h
  refine (fS (M:=M)).2 ?_
  simpa using h1
theorem ax.ng {β:Type} {f:β→Chunk} {l:List β} {p:β} (h:Hp w [ao f l,f p]):ax w [ao f l,f p] w [ao f (l++[p])]:=
  ⟨Jw h,cM.refl _ _,fun g hg=> .inl (by simpa [dn,ao,many] using hg)⟩
theorem av.ng {β:Type} {f:β→Chunk} {l:List β} (p:β) (h:av w L w' G) (i j:Nat) (cD:Nat.beq i j=false) (hi:G[i]?=some [ao f l]) (hj:G[j]?=some [f p]):
    av w L w' ((G.set i [ao f (l++[p])]).set j []++[[]]):=
  h.fE (A':=[ao f (l++[p])]) (B':=[]) (C:=[]) i j cD hi hj (ax.ng (h.CQ i j cD hi hj))
theorem Jv {β:Type} {f:β→Chunk} {l:List β} {p:β} (h:Hp w [ao f l]) (hp:p∈l):(f p).holds w:=
  (h.holds (ao f l) (by simp):Hp w (l.map f)).holds _ (List.mem_map.2 ⟨p,hp,rfl⟩)
variable {I:eK σ α} {ps qs:List σ}
theorem eK.own (h:Hp w [ao I.row ps]):I.Rd w ps:=fun p hp=>
  zL (mw (v:= .slice (I.A p) (I.N p) (I.C p)) (e:=I.e) (sz:=I.T.sz) (n:=(I.X p).length) (vs:=I.T.all (I.X p)) (Jv (f:=I.row) h hp))
theorem eK.Rd.at (h:I.Rd w ps) (k:av w [] w' G):I.Rd w' ps:=fun p hp=>(h p hp).at k
theorem eK.Rd.get (h:I.Rd w ps) (d:σ) (k:Nat) (hk:k<ps.length):bz I.T w (.slice (I.A (ps.getD k d)) (I.N (ps.getD k d)) (I.C (ps.getD k d))) (I.X (ps.getD k d)):=
  h _ (by simp [List.getD_eq_getElem?_getD,List.getElem?_eq_getElem hk])
theorem ak {l:List σ} {d:σ} {k:Nat} (hk:k<l.length):l.getD k d∈l:=by simp [List.getD_eq_getElem?_getD,List.getElem?_eq_getElem hk]
end
section
variable {P:Program} {Γ:Env} {w:World} {ty:TypeId} {K:Value→World→Prop} {α:Type} {T:Ty α}
theorem Kk (xs:List α) (j:Nat) (x':α) (hj:j<xs.length):T.all (xs.set j x')=(T.all xs).take (j*T.sz)++T.enc x'++(T.all xs).drop (j*T.sz+T.sz):=by
  have e1:xs.set j x'=xs.take j++[x']++xs.drop (j+1):=by rw [List.set_eq_take_append_cons_drop,if_pos hj];simp
  have e2:T.all (xs.take j)=(T.all xs).take (j*T.sz):=by
    have e3:T.all xs=T.all (xs.take j)++T.all (xs.drop j):=by rw [←T.all_append,List.take_append_drop]
    have e4:(T.all (xs.take j)).length=j*T.sz:=by rw [T.cr,List.length_take,Nat.min_eq_left oz]
    rw [e3,←e4,List.take_left]
  have e5:T.all (xs.drop (j+1))=(T.all xs).drop (j*T.sz+T.sz):=by
    have e3:T.all xs=T.all (xs.take (j+1))++T.all (xs.drop (j+1)):=by rw [←T.all_append,List.take_append_drop]
    have e4:(T.all (xs.take (j+1))).length=j*T.sz+T.sz:=by rw [T.cr];simp only [List.length_take];rw [Nat.min_eq_left oz,Nat.add_mul,Nat.one_mul]
    rw [e3,←e4,List.drop_left]
  rw [e1,T.all_append,T.all_append,e2,e5];simp [Ty.all]
theorem B9 {v:Value} {e:TypeId} {xs ys:List α} {us:List Value} {o:Nat} (ho:w.ownsRow 0 e T.sz v xs.length (T.all xs)) (h1:us.all (·.oneCell')=true) (cF:o+us.length≤xs.length*T.sz) (An:0<us.length)
    (hl:ys.length=xs.length) (RD:T.all ys=(T.all xs).take o++us++(T.all xs).drop (o+us.length)):
    ∃g cs cap,v= .slice (some ⟨g,0,none⟩) xs.length cap∧w.heap[g]?=some (.cells cs e (0,0))∧o+us.length≤cs.size∧
      ax w [ag T v e xs] (w.setRow g (cs.toList.take o++us++cs.toList.drop (o+us.length)).toArray) [ag T v e ys]:=by
  obtain ⟨k1,k2⟩:=ho
  rcases k2 with ⟨rfl,h0⟩|⟨g,cap,cur,rfl,_,h3,h4,h5,h6,h7⟩
  · rw [h0,Nat.zero_mul] at cF;omega
  · have Bc:xs.length*T.sz≤cur.size:=by rw [h6];exact Nat.mul_le_mul_right _ h4
    have VH:o+us.length≤cur.size:=Nat.le_trans cF Bc
    refine ⟨g,cur,cap,rfl,h3,VH,?_⟩
    have hu:=ax.setRow (Qz:=(cur.toList.take o++us++cur.toList.drop (o+us.length)).toArray) h3
    have Hz:=hu.hp.aQ (g:=g) (cs:=(cur.toList.take o++us++cur.toList.drop (o+us.length)).toArray) (e:=e) (by simp)
    refine ⟨⟨fun c hc=>?_,by simp [dn,ag,row,Value.ownBlock]⟩,?_,fun g' hg=> .inl ?_⟩
    · simp only [List.mem_singleton] at hc;subst hc
      show World.ownsRow _ 0 e T.sz _ ys.length (T.all ys)
      rw [hl]
      refine ⟨by rw [T.cr,hl],.inr ⟨g,cap,_,rfl,Nat.zero_le _,Hz,h4,h5,?_,?_⟩⟩
      · simp [←h6];omega
      · rw [RD,←h7]
        have a1:(cur.toList.take (xs.length*T.sz)).take o=cur.toList.take o:=by rw [List.take_take,Nat.min_eq_left oz]
        have l1:(cur.toList.take o).length=o:=by simp;omega
        have a2:(cur.toList.take (xs.length*T.sz)).drop (o+us.length)=(cur.toList.drop (o+us.length)).take (xs.length*T.sz-(o+us.length)):=by rw [List.drop_take]
        rw [a1,a2]
        simp only [List.toList_toArray]
        have l2:(cur.toList.take o++us).length=o+us.length:=by rw [List.length_append,l1]
        rw [List.take_append,List.take_of_length_le (by rw [l2];exact cF),l2]
    · have:=hu.keep;simpa [dn,ag,row,aQ,Value.ownBlock] using this
    · simpa [dn,ag,row,Value.ownBlock] using hg
theorem elemAt (g n cap k:Nat):bu (.slice (some ⟨g,0,none⟩) n cap) k= .pointer (some ⟨g,k,none⟩):=by simp [bu,ld]
theorem K7 {t e:TypeId} {x y:Operand} {v:Value} {s b:Nat} {z:Option Value} {xs:List α} {us:List Value} (j:Nat) (x':α) (hT:T.sz=s) (hs:bX P t=some (s,b,z)) (hx:ev Γ x=some (bu v (j*s))) (hy:ev Γ y=some (.agg us.toArray))
    (he:T.enc x'=us) (ho:w.ownsRow 0 e T.sz v xs.length (T.all xs)) (hj:j<xs.length) (k:∀w',ax w [ag T v e xs] w' [ag T v e (xs.set j x')]→K undef w'):aq P Γ w (.store t x y) ty K:=by
  subst hT he
  have PI:(T.enc x').length=T.sz:=T.len x'
  have MJ:(T.enc x').all (·.oneCell')=true:=by rw [List.all_eq_true];exact fun u hu=>T.one x' u hu
  obtain ⟨g,cs,cap,rfl,hb,hle,hu⟩:=B9 (ys:=xs.set j x') (us:=T.enc x') (o:=j*T.sz) ho MJ (by rw [PI,←Nat.succ_mul];exact Nat.mul_le_mul_right _ hj) (by rw [PI];exact T.pos) (by simp) (by rw [PI];exact Kk xs j x' hj)
  rw [elemAt] at hx
  refine aq.qW (w':=w.setRow g (cs.toList.take (j*T.sz)++T.enc x'++cs.toList.drop (j*T.sz+(T.enc x').length)).toArray) (fun ρ hρ=>?_) (k _ hu)
  simp only [ex,execOp,hρ x _ hx,hρ y _ hy,Instr.storeAt,Instr.sureAddr,storeVar,Value.cells]
  have:=run_storeCells_at P g (j*T.sz) e (T.enc x') 0 cs w hb (by simpa using hle) (by simpa using MJ)
  simp only [Nat.add_zero] at this
  simp [kf hs,PI,this]
theorem K6 {t e:TypeId} {x lo:Operand} {kd:IntKind} {a:aP} {n c sz b:Nat} {z:Option Value} {l:Int} (i:Nat) (ht:P.underlying t=some (.slice e)) (hs:bX P e=some (sz,b,z)) (hx:ev Γ x=some (.slice a n c)) (hl:ev Γ lo=some (.int kd l))
    (cD:l=((i:Nat):Int)) (Bd:i≤n) (hc:n≤c) (k:K (dR (.slice a n c) sz i n) w):aq P Γ w (.slice t x (some lo) none none) ty K:=by
  subst cD
  refine AB (i:Int) (n:Int) ht hs hx (by simp [Dc,hl]) rfl (.inr ⟨kd,rfl⟩) (.inl ⟨rfl,rfl⟩) ⟨by omega,by omega,by omega⟩ ?_
  simpa using k
theorem IW {t e cty:TypeId} {zv:Value} {g o n c:Nat} {cs:Array Value} {e':TypeId} (ht:P.underlying t=some (.slice e)) (hz:∀w,(zeroValue e).run P w= .ok zv w) (hn:0<n) (hb:w.heap[g]?=some (.cells cs e' (0,0)))
    (hle:o+(Builtin.zeroCells zv.cells n).toList.length≤cs.size) (h1:(Builtin.zeroCells zv.cells n).toList.all (·.oneCell')=true):
    (Builtin.clear_ #[t] cty #[.slice (some ⟨g,o,none⟩) n c]).run P w= .ok (.tuple #[]) (w.setRow g (cs.toList.take o++(Builtin.zeroCells zv.cells n).toList++cs.toList.drop (o+(Builtin.zeroCells zv.cells n).toList.length)).toArray):=by
  have:=run_storeCells_at P g o e' (Builtin.zeroCells zv.cells n).toList 0 cs w hb (by rw [Nat.add_zero];exact hle) (fun u hu=>List.all_eq_true.1 h1 u hu)
  simp only [Nat.add_zero] at this
  obtain ⟨m,rfl⟩:∃m,n=m+1:=⟨n-1,by omega⟩
  simp [Builtin.clear_,run_underlying ht,hz,this]
theorem xp {z:Value} {d:α} (hz:z.cells.toList=T.enc d) (n:Nat):(Builtin.zeroCells z.cells n).toList=T.all (List.replicate n d):=by
  have hs:z.cells.size=T.sz:=by rw [←Array.length_toList,hz,T.len]
  have e:Builtin.zeroCells z.cells n=madeCells z.cells (n*T.sz):=by unfold Builtin.zeroCells madeCells;rw [hs]
  rw [e];exact pQ hz n
theorem OV {t e:TypeId} {x:Operand} {a:aP} {c sz b:Nat} {z:Value} {xs:List α} (i:Nat) (d:α) (hT:T.sz=sz) (ht:P.underlying t=some (.slice e)) (hs:bX P e=some (sz,b,some z)) (hz:z.cells.toList=T.enc d)
    (hx:ev Γ x=some (dR (.slice a xs.length c) sz i xs.length)) (ho:w.ownsRow 0 e T.sz (.slice a xs.length c) xs.length (T.all xs)) (hi:i≤xs.length)
    (k:∀w',ax w [ag T (.slice a xs.length c) e xs] w' [ag T (.slice a xs.length c) e (xs.take i++List.replicate (xs.length-i) d)]→K (.tuple #[]) w'):aq P Γ w (.call { callee:= .builtin .clear,args:= #[x],argTypes:= #[t] }) ty K:=by
  subst hT
  have hl:(xs.take i++List.replicate (xs.length-i) d).length=xs.length:=by simp;omega
  rcases Nat.eq_or_lt_of_le hi with he|cF
  · have e1:xs.take i++List.replicate (xs.length-i) d=xs:=by rw [he];simp
    rw [e1] at k
    refine aq.of_run (fun ρ hρ=>?_) (k w (ax.refl (Tq (oW ho))))
    simp only [ex,execOp,resolve,invoke,builtin,Sem.run_bind,Sem.run_pure,Result.andThen_ok,List.map_toArray,List.map_cons,List.map_nil,hρ x _ hx]
    have:(Builtin.clear_ #[t] ty #[dR (.slice a xs.length c) T.sz i xs.length]).run P w= .ok (.tuple #[]) w:=by
      simp only [dR,he,Nat.sub_self]
      cases (if c=xs.length then a else a.map (·.add (xs.length*T.sz)))<;>simp [Builtin.clear_,run_underlying ht]
    simp [this]
  · have hc:xs.length≤c:=by
      rcases ho.2 with ⟨h1,h2⟩|⟨g,cap,cur,h1,_,_,h2,_⟩
      · omega
      · injection h1 with _ _ h1;omega
    have Xr:=xp (T:=T) hz (xs.length-i)
    have hzn:(Builtin.zeroCells z.cells (xs.length-i)).toList.length=(xs.length-i)*T.sz:=by rw [Xr,T.cr];simp
    have MJ:(Builtin.zeroCells z.cells (xs.length-i)).toList.all (·.oneCell')=true:=by rw [Xr,List.all_eq_true];exact fun u hu=>T.Im _ u hu
    have hmul:i*T.sz+(xs.length-i)*T.sz=xs.length*T.sz:=by rw [←Nat.add_mul];congr 1;omega
    obtain ⟨g,cs,cap,hv,hb,hle,hu⟩:=B9 (ys:=xs.take i++List.replicate (xs.length-i) d) (us:=(Builtin.zeroCells z.cells (xs.length-i)).toList) (o:=i*T.sz) ho MJ (by rw [hzn,hmul];exact Nat.le_refl _) (by rw [hzn];exact Nat.mul_pos oz T.pos) hl (by
      rw [T.all_append,←Xr,hzn,hmul]
      have e3:T.all xs=T.all (xs.take i)++T.all (xs.drop i):=by rw [←T.all_append,List.take_append_drop]
      have e4:(T.all (xs.take i)).length=i*T.sz:=by rw [T.cr,List.length_take,Nat.min_eq_left hi]
      have e5:(T.all xs).drop (xs.length*T.sz)=[]:=List.drop_of_length_le (by rw [T.cr];exact Nat.le_refl _)
      rw [e5,e3,←e4,List.take_left];simp)
    injection hv with ha _ _
    subst ha
    have e6:dR (.slice (some ⟨g,0,none⟩) xs.length c) T.sz i xs.length= .slice (some ⟨g,i*T.sz,none⟩) (xs.length-i) (c-i):=by
      simp only [dR];rw [if_neg oz];simp [Addr.add];exact fun h=>h.symm
    rw [e6] at hx
    have hk:=k _ (by rw [hl] at*;exact hu)
    refine aq.of_run (fun ρ hρ=>?_) hk
    simp only [ex,execOp,resolve,invoke,builtin,Sem.run_bind,Sem.run_pure,Result.andThen_ok,List.map_toArray,List.map_cons,List.map_nil,hρ x _ hx]
    rw [IW ht (fun w=>qQ hs) oz hb hle MJ]
    rfl
theorem Lb {t e:TypeId} {x:Operand} {a:aP} {n c sz b:Nat} {z:Value} {xs:List α} (i:Nat) (d:α) (hT:T.sz=sz) (ht:P.underlying t=some (.slice e)) (hs:bX P e=some (sz,b,some z)) (hz:z.cells.toList=T.enc d)
    (hx:ev Γ x=some (dR (.slice a n c) sz i n)) (ho:w.ownsRow 0 e T.sz (.slice a n c) xs.length (T.all xs)) (hn:n=xs.length) (hi:i≤n)
    (k:∀w',ax w [ag T (.slice a n c) e xs] w' [ag T (.slice a n c) e (xs.take i++List.replicate (n-i) d)]→K (.tuple #[]) w'):aq P Γ w (.call { callee:= .builtin .clear,args:= #[x],argTypes:= #[t] }) ty K:=by
  subst hn;exact OV i d hT ht hs hz hx ho hi k
theorem La {t e:TypeId} {x hi:Operand} {kd:IntKind} {a:aP} {n c sz b:Nat} {z:Option Value} {xs:List α} (h:Int) (hn:Nat) (hT:T.sz=sz) (ht:P.underlying t=some (.slice e)) (hs:bX P e=some (sz,b,z)) (hx:ev Γ x=some (.slice a n c)) (hh:ev Γ hi=some (.int kd h))
    (ho:w.ownsRow 0 e T.sz (.slice a n c) xs.length (T.all xs)) (RJ:n=xs.length) (cD:h=((hn:Nat):Int)) (hle:hn≤n) (k:∀w',ax w [ag T (.slice a n c) e xs] w' [ag T (.slice a (xs.take hn).length c) e (xs.take hn)]→K (.slice a (xs.take hn).length c) w'):aq P Γ w (.slice t x none (some hi) none) ty K:=by
  subst RJ;exact BC h hn hT ht hs hx hh ho cD hle k
theorem vu {a:aP} {n c sz m:Nat} {e:TypeId} {vs:List Value} (h:w.ownsRow 0 e sz (.slice a n c) m vs):n≤c:=by
  rcases h.2 with ⟨h1,h2⟩|⟨g,cap,cur,h1,_,_,h2,_⟩
  · injection h1 with _ h1 _;omega
  · injection h1 with _ h3 h1;omega
end
open Go.Sort
section
variable {w:World} {k:IntKind} {e:TypeId}
theorem uQ (xs:List Int):(aw k).all xs=xs.map (Value.int k):=by
  induction xs with
  | nil=>rfl
  | cons x xs ih=>simp only [Ty.all,aw,List.flatMap_cons,List.map_cons,List.singleton_append] at*;rw [ih]
theorem sH {g n c:Nat} {xs:List Int} (ho:w.ownsRow 0 e (aw k).sz (.slice (some ⟨g,0,none⟩) n c) xs.length ((aw k).all xs)):Holds (Value.int k) w g 0 xs.toArray∧g<w.heap.size:=by
  have vW:=zL ho
  obtain ⟨h1,h2⟩:=ho
  rcases h2 with ⟨h,_⟩|⟨g',cap,cur,hv,h2,h3,h4,h5,h6,h7⟩
  · cases h
  · cases hv
    refine ⟨fun j hj=>?_,j1 h3⟩
    have XX:j<xs.length:=by simpa using hj
    obtain ⟨A,Y3,he,_,_,hr⟩:=vW
    cases he
    obtain ⟨ad,ha,hc⟩:=hr j (.int k xs[j]) (by rw [uQ];simp [XX])
    cases ha
    refine ⟨?_,by simp [World.frozen?,h3]⟩
    rw [ld] at hc
    simp only [Nat.zero_add] at hc ⊢
    rw [hc]
    simp [XX]
theorem zo {g n c q:Nat} {os:Array Obj} {xs ys:List Int} (ho:w.ownsRow 0 e (aw k).sz (.slice (some ⟨g,0,none⟩) n c) xs.length ((aw k).all xs)) (hl:ys.length=xs.length):
    ax w [ag (aw k) (.slice (some ⟨g,0,none⟩) n c) e xs] (grow (putRow (Value.int k) (Sort.ahead w q) g 0 ys.toArray) os) [ag (aw k) (.slice (some ⟨g,0,none⟩) n c) e ys]:=by
  obtain ⟨h1,h2⟩:=ho
  rcases h2 with ⟨h,_⟩|⟨g',cap,cur,hv,h2,h3,h4,h5,h6,h7⟩
  · cases h
  · cases hv
    have cF:=j1 h3
    have hg:(grow (putRow (Value.int k) (Sort.ahead w q) g 0 ys.toArray) os).heap[g]?=some (.cells (putCells (Value.int k) 0 ys.toArray cur) e (0,0)):=by
      simp only [grow,putRow,mapBlock,Sort.ahead]
      rw [Array.getElem?_append_left (by simpa using cF),Array.getElem?_modify,if_pos rfl,h3]
      rfl
    have Bc:xs.length≤cur.size:=by rw [h6];simp only [aw,Nat.mul_one];exact h4
    refine ⟨⟨fun c' hc=>?_,by simp [dn,ag,row,Value.ownBlock]⟩,⟨rfl,rfl,rfl,by simp [grow,putRow,mapBlock,Sort.ahead],fun i hi hs=>?_⟩,fun g' MQ=> .inl (by simpa [dn,ag,row,Value.ownBlock] using MQ)⟩
    · simp only [List.mem_singleton] at hc;subst hc
      show World.ownsRow _ 0 e (aw k).sz _ ys.length ((aw k).all ys)
      refine ⟨(aw k).cr ys,.inr ⟨g,c,putCells (Value.int k) 0 ys.toArray cur,by rw [hl],Nat.zero_le _,hg,by omega,h5,by simp [putCells,h6],?_⟩⟩
      rw [uQ]
      simp only [aw,Nat.mul_one]
      apply List.ext_getElem?
      intro j
      simp only [List.getElem?_take,putCells,Array.getElem?_toList,Array.getElem?_mapIdx,List.getElem?_map]
      by_cases hj:j<ys.length
      · have yT:j<cur.size:=by omega
        simp [hj,yT]
      · simp [hj,List.getElem?_eq_none (by omega:ys.length≤j)]
    · have bm:g≠i:=by intro e';subst e';simp [dn,ag,row,Value.ownBlock] at hs
      simp only [grow,putRow,mapBlock,Sort.ahead]
      rw [Array.getElem?_append_left (by simpa using hi),Array.getElem?_modify,if_neg bm]
theorem KS {α:Type} {T:Ty α} {L:List Chunk} {w':World} {g n c j:Nat} {ys zs:List α} (h:ax w L w' [ag T (.slice (some ⟨g,0,none⟩) n c) e ys]) (hj:j≤ys.length) (hz:ys.take j=zs):ax w L w' [ag T (.slice (some ⟨g,0,none⟩) zs.length c) e zs]:=by
  subst hz
  have hlen:(ys.take j).length=j:=by simp;omega
  have ho:=mw (h.hp.holds _ (List.mem_singleton.2 rfl))
  refine ⟨⟨fun c' hc=>?_,by simp [dn,ag,row,Value.ownBlock]⟩,h.keep,fun g' hg=>h.fresh g' (by simpa [dn,ag,row,Value.ownBlock] using hg)⟩
  simp only [List.mem_singleton] at hc;subst hc
  show World.ownsRow _ 0 e T.sz _ (ys.take j).length (T.all (ys.take j))
  rcases ho.2 with ⟨h1,_⟩|⟨g',cap,cur,hv,h2,h3,h4,h5,h6,h7⟩
  · cases h1
  · cases hv
    refine ⟨T.cr _,.inr ⟨g,c,cur,rfl,Nat.zero_le _,h3,by omega,h5,h6,?_⟩⟩
    have e3:T.all ys=T.all (ys.take j)++T.all (ys.drop j):=by rw [←T.all_append,List.take_append_drop]
    have e4:(T.all (ys.take j)).length=(ys.take j).length*T.sz:=T.cr _
    have e5:cur.toList.take ((ys.take j).length*T.sz)=(cur.toList.take (ys.length*T.sz)).take ((ys.take j).length*T.sz):=by rw [List.take_take,Nat.min_eq_left (Nat.mul_le_mul_right _ oz)]
    rw [e5,h7,e3,←e4,List.take_left]
end
section
variable {α:Type} {T:Ty α} {w w':World} {L:List Chunk} {G:List (List Chunk)} {v:Value} {xs:List α}
theorem av.JC {kR:World} {A:List Chunk} (h:av w [] w' G) (i:Nat) (hi:G[i]?=some A) (k:cM (dn A) w' kR):cM [] w kR:=
  h.nv.step k fun g hg=> .inr ((ax.fresh h g ((gw.2 (by
    obtain ⟨c,hc,MQ⟩:=gw.1 hg
    exact ⟨c,List.mem_flatten.2 ⟨A,List.mem_of_getElem? hi,hc⟩,MQ⟩)))).resolve_left (by simp [dn]))
theorem av.wX {kR:World} {A:List Chunk} {g:Nat} {cs:Array Value} {e:TypeId} (h:av w L w' G) (i j:Nat) (cD:Nat.beq i j=false) (hi:G[i]?=some A) (hj:G[j]?=some [Sx.aQ g cs e]) (k:cM (dn A) w' kR):kR.heap[g]?=some (.cells cs e (0,0)):=
  k.obj (h.aQ j hj) fun hm=>(h.CQ i j cD hi hj).apart hm (by simp [dn,Sx.aQ])
theorem av.LB {kR:World} {A:List Chunk} {e:TypeId} (h:av w L w' G) (i j:Nat) (cD:Nat.beq i j=false) (hi:G[i]?=some A) (hj:G[j]?=some [ag T v e xs]) (k:cM (dn A) w' kR):bz T kR v xs:=by
  refine (h.GU j hj).keep k fun g hg hm=>(h.CQ i j cD hi hj).apart hm ?_
  obtain ⟨A',cap,rfl,_⟩:=h.GU j hj
  cases A' with
  | none=>simp [Value.Gh] at hg
  | some ad=>simp [Value.Gh] at hg;simp [dn,ag,row,Value.ownBlock,hg]
end
section
variable {P:Program} {Γ:Env} {w:World} {ty:TypeId} {K:Value→World→Prop}
end
section
variable {β:Type} {f:β→Chunk} {l:List β} {w w':World} {L:List Chunk} {G:List (List Chunk)} {p:β} {i:Nat}
theorem FN (hi:i<l.length):(l[i]::l.eraseIdx i).Perm l:=by
  rw [List.eraseIdx_eq_take_drop_succ]
  have e:l=l.take i++l[i]::l.drop (i+1):=by rw [←List.drop_eq_getElem_cons hi,List.take_append_drop]
  refine List.perm_middle.symm.trans ?_
  rw [←e]
theorem set_perm (hi:i<l.length) (p:β):(l.set i p).Perm (p::l.eraseIdx i):=by
  rw [List.eraseIdx_eq_take_drop_succ,List.set_eq_take_append_cons_drop,if_pos hi]
  exact List.perm_middle
theorem Mj (d:β) (hi:i<l.length) (h:Hp w [ao f l]):ax w [ao f l] w [ao f (l.eraseIdx i),f (l.getD i d)]:=by
  have e:l.getD i d=l[i]:=by simp [List.getD_eq_getElem?_getD,List.getElem?_eq_getElem hi]
  have CP:(l.map f).Perm ((l.eraseIdx i).map f++[f l[i]]):=by
    have h1:=(FN hi).symm.map f
    rw [List.map_cons] at h1
    exact h1.trans (List.perm_append_singleton _ _).symm
  have h1:Hp w (l.map f++[]):=fS.1 h
  rw [List.append_nil] at h1
  rw [e]
  refine ⟨fS.2 (h1.perm CP),cM.refl _ _,fun g hg=> .inl ?_⟩
  have h2:g∈dn ((l.eraseIdx i).map f++[f l[i]]):=by rw [←eZ];exact hg
  have h3:g∈dn (l.map f):=(CP.flatMap_right _).mem_iff.2 h2
  have h4:dn [ao f l]=dn (l.map f++[]):=eZ _ _
  rw [h4,List.append_nil];exact h3
theorem Ps (hi:i<l.length) (h:Hp w [ao f (l.eraseIdx i),f p]):ax w [ao f (l.eraseIdx i),f p] w [ao f (l.set i p)]:=by
  have CP:((l.eraseIdx i).map f++[f p]).Perm ((l.set i p).map f):=by
    have h1:=(set_perm hi p).map f
    rw [List.map_cons] at h1
    exact (List.perm_append_singleton _ _).trans h1.symm
  have h1:=(fS.1 h).perm CP
  refine ⟨?_,cM.refl _ _,fun g hg=> .inl ?_⟩
  · refine fS.2 ?_
    rw [List.append_nil];exact h1
  · have h4:dn [ao f (l.set i p)]=dn ((l.set i p).map f++[]):=eZ _ _
    rw [h4,List.append_nil] at hg
    have h5:g∈dn ((l.eraseIdx i).map f++[f p]):=(CP.flatMap_right _).mem_iff.2 hg
    have h6:dn [ao f (l.eraseIdx i),f p]=dn ((l.eraseIdx i).map f++[f p]):=eZ _ _
    rw [h6];exact h5
theorem av.ei (d:β) (h:av w L w' G) (j i:Nat) (hj:G[j]?=some [ao f l]) (hi:i<l.length):av w L w' (G.set j [ao f (l.eraseIdx i)]++[[f (l.getD i d)]]):=
  h.onX (B:=[ao f (l.eraseIdx i)]) (C:=[f (l.getD i d)]) j hj (Mj d hi (h.bU j hj))
theorem av.eo (p:β) (h:av w L w' G) (j k i:Nat) (hjk:Nat.beq j k=false) (hj:G[j]?=some [ao f (l.eraseIdx i)]) (hk:G[k]?=some [f p]) (hi:i<l.length):av w L w' ((G.set j [ao f (l.set i p)]).set k []++[[]]):=
  h.fE (A':=[ao f (l.set i p)]) (B':=[]) (C:=[]) j k hjk hj hk (Ps hi (h.CQ j k hjk hj hk))
end
structure LR (α:Type) where
  a:aP
  n:Nat
  c:Nat
  xs:List α
def aK {α:Type} :Ty (LR α):=⟨1,fun p=>[.slice p.a p.n p.c],fun _=>rfl,fun d u hu=>by simp at hu;subst hu;rfl,by omega⟩
def ae {α:Type} :LR α:=⟨none,0,0,[]⟩
def aG {α:Type} (T:Ty α) (e:TypeId):eK (LR α) α:=⟨T,e,LR.a,LR.c,LR.xs,LR.n⟩
theorem ax.Hc {α:Type} (T:Ty α) (e:TypeId) (n:Nat) (w:World):ax w [] w [ao (aG T e).row (List.replicate n ae)]:=by
  have Yd:dn ((List.replicate n ae).map (aG T e).row)=[]:=by
    induction n with
    | zero=>rfl
    | succ n ih=>rw [List.replicate_succ,List.map_cons];simp only [dn,List.flatMap_cons] at ih ⊢;rw [ih];rfl
  have hh:Hp w ((List.replicate n ae).map (aG T e).row):=by
    refine ⟨fun c hc=>?_,by rw [Yd];simp⟩
    obtain ⟨p,hp,rfl⟩:=List.mem_map.1 hc
    have:=List.eq_of_mem_replicate hp
    subst this
    exact ⟨by simp [Ty.all,aG,ae],.inl ⟨rfl,rfl⟩⟩
  have h2:dn [ao (aG T e).row (List.replicate n ae)]=[]:=by
    have:=eZ ((List.replicate n ae).map (aG T e).row) []
    rw [List.append_nil,Yd] at this;exact this
  exact ⟨fS.2 (by rw [List.append_nil];exact hh),cM.refl _ _,fun g hg=>by rw [h2] at hg;simp at hg⟩
theorem BO {α:Type} {X:List (LR α)} {i:Nat} (hi:i<X.length) (v:Value) (e:TypeId) (ys:List α):
    ag aK v e (X.set i ⟨(X.getD i ae).a,(X.getD i ae).n,(X.getD i ae).c,ys⟩)=ag aK v e X:=by
  have h1:(aK:Ty (LR α)).all (X.set i ⟨(X.getD i ae).a,(X.getD i ae).n,(X.getD i ae).c,ys⟩)=aK.all X:=by
    have h2:=(aK:Ty (LR α)).uP (X.getD i ae) X i 0 ⟨(X.getD i ae).a,(X.getD i ae).n,(X.getD i ae).c,ys⟩ (.slice (X.getD i ae).a (X.getD i ae).n (X.getD i ae).c) hi (Nat.zero_lt_one) rfl
    rw [←h2]
    apply List.ext_getElem?
    intro m
    rw [List.getElem?_set]
    split
    · rename_i hm
      subst hm
      have h3:=(aK:Ty (LR α)).oG ae X i 0 hi (Nat.zero_lt_one)
      rw [h3]
      split
      · rfl
      · rename_i h4;exact absurd (by rw [Ty.cr];show i*1+0<X.length*1;omega) h4
    · rfl
  unfold ag
  rw [h1,List.length_set]
theorem av.lh {α:Type} {w w':World} {L:List Chunk} {G:List (List Chunk)} {X:List (LR α)} {v:Value} {e:TypeId} (ys:List α) (h:av w L w' G) (k i:Nat) (hk:G[k]?=some [ag aK v e X]) (hi:i<X.length):
    av w L w' (G.set k [ag aK v e (X.set i ⟨(X.getD i ae).a,(X.getD i ae).n,(X.getD i ae).c,ys⟩)]):=by
  rw [BO hi]
  have:G.set k [ag aK v e X]=G:=by
    apply List.ext_getElem?
    intro m
    rw [List.getElem?_set]
    split
    · rename_i hm;subst hm
      split
      · exact hk.symm
      · rename_i h4;rw [List.getElem?_eq_none oz]
    · rfl
  rw [this];exact h
open Go.MapKept
section
variable {κ ν:Type} [DecidableEq κ]
def rD (a:κ):List κ→Nat→Option Nat
  | [],_=>none
  | x::r,i=>if a=x then some i else rD a r (i+1)
def getM:List (κ×ν)→κ→Option ν
  | [],_=>none
  | p::r,a=>if a=p.1 then some p.2 else getM r a
def iC:List (κ×ν)→κ→ν→List (κ×ν)
  | [],a,v=>[(a,v)]
  | p::r,a,v=>if a=p.1 then (a,v)::r else p::iC r a v
theorem rC (m:List (κ×ν)) (a b:κ) (v:ν):getM (iC m a v) b=if b=a then some v else getM m b:=by
  induction m with
  | nil=>simp [iC,getM]
  | cons p r ih=>
    unfold iC
    split
    · rename_i h
      subst h
      simp only [getM]
      split<;>rfl
    · rename_i h
      simp only [getM,ih]
      split
      · rename_i h2;subst h2;rw [if_neg (fun e=>h e.symm)]
      · rfl
theorem getM_none {m:List (κ×ν)} {a:κ} :getM m a=none↔∀p,p∈m→p.1≠a:=by
  induction m with
  | nil=>simp [getM]
  | cons p r ih=>
    simp only [getM]
    split
    · rename_i h;simp [h]
    · rename_i h
      rw [ih]
      simp only [List.mem_cons,forall_eq_or_imp]
      exact ⟨fun h2=>⟨fun e=>h e.symm,h2⟩,fun h2=>h2.2⟩
theorem B2 {m:List (κ×ν)} {a:κ} {v:ν} (h:getM m a=none):iC m a v=m++[(a,v)]:=by
  induction m with
  | nil=>rfl
  | cons p r ih=>
    simp only [getM] at h
    split at h
    · cases h
    · rename_i bm
      simp only [iC,if_neg bm,ih h,List.cons_append]
theorem lW (a:κ):∀(l:List κ) (i:Nat),(rD a l i=none∧a∉l)∨∃j,rD a l i=some (i+j)∧l[j]?=some a∧∀q,q<j→l[q]?≠some a
  | [],i=> .inl ⟨rfl,by simp⟩
  | x::r,i=>by
    unfold rD
    by_cases h:a=x
    · rw [if_pos h];exact .inr ⟨0,rfl,by simp [h],fun q hq=>by omega⟩
    · rw [if_neg h]
      rcases lW a r (i+1) with ⟨h1,h2⟩|⟨j,h1,h2,h3⟩
      · exact .inl ⟨h1,by simp [h,h2]⟩
      · refine .inr ⟨j+1,by rw [h1];congr 1;omega,by simpa using h2,fun q hq=>?_⟩
        cases q with
        | zero=>simp;exact fun e=>h e.symm
        | succ q=>simpa using h3 q oz
structure s8 (P:Program) (k:TypeId) (enc:κ→Value):Prop where
  Y1:∀(e:Bool) (a:κ) (w:World),(Instr.checkKey e 10000 k (enc a)).run P w= .ok () w
  find:∀(a:κ) (es:List MapEntry) (ks:List κ) (w:World),es.map (·.key)=ks.map enc→
    (Instr.findKey k (enc a) es).run P w= .ok ((rD a ks 0).bind fun j=>(es[j]?).map fun e=>(j,e.val)) w
  bits:∀a,Instr.sameBits 10000 (enc a) (enc a)=true
theorem qt {d:TypeDesc} {enc:κ→Value} (hs:∀a b,Instr.sameNow d (enc a) (enc b)=some (decide (a=b))) (a:κ):
    ∀(es:List MapEntry) (ks:List κ) (i:Nat),es.map (·.key)=ks.map enc→Instr.findNow d (enc a) es i=some ((rD a ks i).bind fun j=>(es[j-i]?).map fun e=>(j,e.val))
  | [],[],i,_=>rfl
  | [],_::_,i,h=>by simp at h
  | _::_,[],i,h=>by simp at h
  | e::es,x::ks,i,h=>by
    simp only [List.map_cons,List.cons.injEq] at h
    unfold Instr.findNow rD
    rw [h.1,hs]
    by_cases hx:a=x
    · simp [hx]
    · rw [if_neg hx,decide_eq_false hx]
      simp only
      rw [qt hs a es ks (i+1) h.2]
      congr 1
      rcases lW a ks (i+1) with ⟨h1,_⟩|⟨j,h1,h2,_⟩
      · rw [h1];rfl
      · rw [h1]
        simp only [Option.bind_some]
        have e1:i+1+j-(i+1)=j:=by omega
        have e2:i+1+j-i=j+1:=by omega
        rw [e1,e2]
        simp
theorem ab3 {P:Program} {k:TypeId} {q:IntKind} (hk:P.underlying k=some (.int q)):s8 P k (fun a:Int=> .int q a) where
  Y1:=fun e a w=>run_checkKey (d:= .int q) hk (by simp [IsKey]) e 9999
  find:=fun a es ks w h=>run_findKey hk (by
    have:=qt (d:= .int q) (enc:=fun a:Int=> .int q a) (fun a b=>by simp [Instr.sameNow];rfl) a es ks 0 h
    simpa using this)
  bits:=fun a=>by simp [Instr.sameBits]
theorem S7 {P:Program} {k:TypeId} (hk:P.underlying k=some .string):s8 P k (fun a:ByteArray=> .string a) where
  Y1:=fun e a w=>run_checkKey (d:= .string) hk (by simp [IsKey]) e 9999
  find:=fun a es ks w h=>run_findKey hk (by
    have:=qt (d:= .string) (enc:=fun a:ByteArray=> .string a) (fun a b=>by
      simp only [Instr.sameNow]
      congr 1
      by_cases e:a=b
      · rw [decide_eq_true e];exact (bytes_beq a b).2 e
      · rw [decide_eq_false e]
        exact Bool.eq_false_iff.2 fun h=>e ((bytes_beq a b).1 h)) a es ks 0 h
    simpa using this)
  bits:=fun a=>by simp only [Instr.sameBits];exact (bytes_beq a a).2 rfl
end
section
variable {P:Program}
theorem QC {em:Bool} {n:Nat} {t:TypeId} {x y:Value} {w:World} (h:rE P t x y=true):(Instr.checkKey em (n+1) t x).run P w= .ok () w:=by
  unfold rE at h
  split at h
  · rename_i hu;unfold Instr.checkKey;simp [run_underlying hu,Result.andThen]
  · rename_i hu;unfold Instr.checkKey;simp [run_underlying hu,Result.andThen]
  · rename_i hu;unfold Instr.checkKey;simp [run_underlying hu,Result.andThen]
  · cases h
theorem tg {em:Bool} {n:Nat} {X:Array Value} :∀ {fs:List Field} {i:Nat} {xs:List Value} (w:World),qq P i fs xs xs=true→(∀j,j<xs.length→X[i+j]?=xs[j]?)→
    (forIn fs PUnit.unit fun f _=>(if f.name≠ "_" then (do
      let v←part f.type X f.offset
      Instr.checkKey em (n+1) f.type v
      pure (ForInStep.yield PUnit.unit)) else pure (ForInStep.yield PUnit.unit):Sem (ForInStep PUnit))).run P w= .ok PUnit.unit w
  | [],i,[],w,_,_=>by simp
  | f::fs,i,x::xs,w,h,hx=>by
    simp only [qq,Bool.and_eq_true,bne_iff_ne,ne_eq] at h
    obtain ⟨⟨⟨hn,ho⟩,h1⟩,h2⟩:=h
    have ho:=Nat.eq_of_beq_eq_true ho
    have ex:=hx 0 (by simp)
    simp only [Nat.add_zero,List.getElem?_cons_zero] at ex
    obtain ⟨p1,_,_⟩:=te (w:=w) (d:=0) (o:=f.offset) h1 (by rw [ho];exact ex) (by rw [ho];exact ex)
    have ih:=tg (em:=em) (n:=n) (X:=X) w h2 (fun j hj=>by have:=hx (j+1) im;rw [show i+1+j=i+(j+1) by omega,this];simp)
    have hc:(Instr.checkKey em (n+1) f.type x).run P w= .ok () w:=QC h1
    simp only [ne_eq] at ih
    simp only [List.forIn_cons,Sem.run_bind,ne_eq,hn,not_false_eq_true,if_true,p1,hc,Result.andThen_ok,Sem.run_pure,ih]
theorem tf {κ:Type} [DecidableEq κ] {k:TypeId} {enc:κ→Value} (heq:∀(a b:κ) (w:World),(Op.equal k (enc a) (enc b)).run P w= .ok (decide (a=b)) w) (a:κ):
    ∀(es:List MapEntry) (ks:List κ) (i:Nat) (w:World),es.map (·.key)=ks.map enc→(Instr.findAsking k (enc a) es i).run P w= .ok ((rD a ks i).bind fun j=>(es[j-i]?).map fun e=>(j,e.val)) w
  | [],[],i,w,_=>by simp [Instr.findAsking,rD]
  | [],_::_,i,w,h=>by simp at h
  | _::_,[],i,w,h=>by simp at h
  | e::es,x::ks,i,w,h=>by
    simp only [List.map_cons,List.cons.injEq] at h
    unfold Instr.findAsking rD
    rw [h.1]
    simp only [Sem.run_bind,heq,Result.andThen_ok]
    by_cases hx:a=x
    · simp [hx]
    · rw [if_neg hx,decide_eq_false hx]
      simp only [Bool.false_eq_true,if_false]
      rw [tf heq a es ks (i+1) w h.2]
      congr 1
      rcases lW a ks (i+1) with ⟨h1,_⟩|⟨j,h1,h2,_⟩
      · rw [h1];rfl
      · rw [h1]
        simp only [Option.bind_some]
        have e1:i+1+j-(i+1)=j:=by omega
        have e2:i+1+j-i=j+1:=by omega
        rw [e1,e2]
        simp
def ui (p:Int×Int):Value:= .agg #[.int .i64 p.1,.int .i64 p.2]
theorem ab2 {k:TypeId} (hu:P.underlying k=some (.struct (P.fieldsOf k))) (hp:P.stoodInHeld k=false)
    (hf:∀x y z u:Int,qq P 0 (P.fieldsOf k).toList [.int .i64 x,.int .i64 y] [.int .i64 z,.int .i64 u]=true):s8 P k ui where
  Y1:=fun e a w=>by
    unfold Instr.checkKey
    simp only [Sem.run_bind,run_underlying hu,Result.andThen_ok,ui]
    rw [←Array.forIn_toList]
    have h1:=tg (em:=e) (n:=9998) (X:= #[Value.int .i64 a.1,.int .i64 a.2]) w (hf a.1 a.2 a.1 a.2) (fun j hj=>by simp)
    rw [h1];simp
  find:=fun a es ks w h=>by
    have e1:=run_findKey_eq (P:=P) (w:=w) (k:=k) (by simp [hu]) (ui a) es
    rw [e1]
    have:=tf (P:=P) (k:=k) (enc:=ui) (fun a b w=>by
      have h1:=IX (w:=w) hu hp (hf a.1 a.2 b.1 b.2)
      have h2:jQ [Value.int .i64 a.1,.int .i64 a.2] [.int .i64 b.1,.int .i64 b.2]=decide (a=b):=by
        obtain ⟨a1,a2⟩:=a;obtain ⟨b1,b2⟩:=b
        simp [jQ,mX]
      rw [h2] at h1
      exact h1) a es ks 0 w h
    simpa using this
  bits:=fun a=>by simp [Instr.sameBits,ui]
end
def dU {κ ν:Type} (ek:κ→Value) (ev:ν→Value) (g:Nat) (m:List (κ×ν)):Chunk:=
  ⟨[g],fun w=>∃es clock,w.heap[g]?=some (.map es clock)∧es.toList.map (fun e=>(e.key,e.val))=m.map (fun p=>(ek p.1,ev p.2)),
    fun w w' h k=>by obtain ⟨es,c,h1,h2⟩:=k;exact ⟨es,c,(h g (by simp)).trans h1,h2⟩,
    fun w g' hg k=>by obtain ⟨es,c,h1,_⟩:=k;simp at hg;subst hg;exact j1 h1,fun _ _=>by simp⟩
def oH {κ ν:Type} (w:World) (ek:κ→Value) (fy:ν→Value) (g:Nat) (m:List (κ×ν)):Prop:=∃es clock,w.heap[g]?=some (.map es clock)∧es.toList.map (fun e=>(e.key,e.val))=m.map (fun p=>(ek p.1,fy p.2))
section
variable {κ ν:Type} {P:Program} {Γ:Env} {w:World} {ty:TypeId} {K:Value→World→Prop} {ek:κ→Value} {fy:ν→Value}
theorem av.oh {w w':World} {L:List Chunk} {G:List (List Chunk)} {g:Nat} {m:List (κ×ν)} (h:av w L w' G) (i:Nat) (hi:G[i]?=some [dU ek fy g m]):
    oH w' ek fy g m:=(h.bU i hi).holds (dU ek fy g m) (by simp)
theorem Af {m:List (κ×ν)} {es:Array MapEntry} (h:es.toList.map (fun e=>(e.key,e.val))=m.map (fun p=>(ek p.1,fy p.2))):es.toList.map (·.key)=(m.map Prod.fst).map ek:=by
  have h2:=congrArg (List.map Prod.fst) h
  simpa [Function.comp_def] using h2
theorem Nw {x:Operand} {t k e:TypeId} {g:Nat} {m:List (κ×ν)} (ht:P.underlying t=some (.map k e)) (hx:ev Γ x=some (.map (some g)))
    (hm:oH w ek fy g m) (kk:K (.int .i64 ((m.length:Nat):Int)) w):aq P Γ w (.call { callee:= .builtin .len,args:= #[x],argTypes:= #[t] }) ty K:=by
  obtain ⟨es,clock,h1,h2⟩:=hm
  have hl:es.size=m.length:=by have:=congrArg List.length h2;simpa using this
  refine aq.of_run (w':=w) (fun ρ hρ=>?_) kk
  simp [ex,execOp,hρ x _ hx,resolve,invoke,builtin,Builtin.len_,run_underlying ht,Go.MapKept.run_getObj_map h1,goInt,hl,Result.andThen]
end
section
variable {κ ν:Type} [DecidableEq κ] {P:Program} {Γ:Env} {w:World} {ty:TypeId} {K:Value→World→Prop} {ek:κ→Value} {fy:ν→Value}
theorem o8 {t:TypeId} {κ ν:Type} (ek:κ→Value) (fy:ν→Value) (k:∀w',ax w [] w' [dU ek fy w.heap.size []]→K (.map (some w.heap.size)) w'):aq P Γ w (.makeMap t none) ty K:=
  aq.of_run (w':=w.alloc (.map #[] 0)) (fun ρ hρ=>by simp [ex,execOp,Go.RowKit.run_makeMap]) (k _ ⟨⟨fun c hc=>by
    simp only [List.mem_singleton] at hc;subst hc;exact ⟨#[],0,(heap_alloc w _).1,rfl⟩,by simp [dn,dU]⟩,
    ⟨rfl,rfl,rfl,by show w.heap.size≤(w.heap.push _).size;simp,fun j hj _=>(heap_alloc w _).2 j hj⟩,fun g hg=> .inr (by simp [dn,dU] at hg;omega)⟩)
theorem FR {t k e:TypeId} {x:Operand} {kd:IntKind} {i:Int} {κ ν:Type} (ek:κ→Value) (fy:ν→Value) (ht:P.underlying t=some (.map k e)) (hx:ev Γ x=some (.int kd i)) (kk:∀w',ax w [] w' [dU ek fy w.heap.size []]→K (.map (some w.heap.size)) w'):aq P Γ w (.makeMap t (some x)) ty K:=
  aq.of_run (w':=w.alloc (.map #[] 0)) (fun ρ hρ=>by
    have h1:(Instr.makeMap t (some (.int kd i))).run P w= .ok (.map (some w.heap.size)) (w.alloc (.map #[] 0)):=by
      unfold Instr.makeMap
      simp only [Sem.run_bind,run_underlying ht,Result.andThen_ok,asInt]
      rfl
    simp [ex,execOp,hρ x _ hx,h1]) (kk _ ⟨⟨fun c hc=>by
    simp only [List.mem_singleton] at hc;subst hc;exact ⟨#[],0,(heap_alloc w _).1,rfl⟩,by simp [dn,dU]⟩,
    ⟨rfl,rfl,rfl,by show w.heap.size≤(w.heap.push _).size;simp,fun j hj _=>(heap_alloc w _).2 j hj⟩,fun g hg=> .inr (by simp [dn,dU] at hg;omega)⟩)
theorem P9 {m:List (κ×ν)} {es:Array MapEntry} (a:κ) (h:es.toList.map (fun e=>(e.key,e.val))=m.map (fun p=>(ek p.1,fy p.2))):
    ((rD a (m.map Prod.fst) 0).bind fun j=>(es.toList[j]?).map fun e=>(j,e.val)).map (fun x=>x.2)=(getM m a).map fy:=by
  have aux:∀(m:List (κ×ν)) (es:List MapEntry) (i:Nat),es.map (fun e=>(e.key,e.val))=m.map (fun p=>(ek p.1,fy p.2))→
      ((rD a (m.map Prod.fst) i).bind fun j=>(es[j-i]?).map fun e=>(j,e.val)).map (fun x=>x.2)=(getM m a).map fy:=by
    intro m
    induction m with
    | nil=>intro es i _;rfl
    | cons p r ih=>
      intro es i h
      match es,h with
      | e::es,h=>
        simp only [List.map_cons,List.cons.injEq,Prod.mk.injEq] at h
        unfold getM
        simp only [List.map_cons]
        unfold rD
        by_cases hx:a=p.1
        · simp [hx,h.1.2]
        · rw [if_neg hx,if_neg hx,←ih es (i+1) h.2]
          rcases lW a (r.map Prod.fst) (i+1) with ⟨h1,_⟩|⟨j,h1,h2,_⟩
          · rw [h1];rfl
          · rw [h1]
            simp only [Option.bind_some]
            have e1:i+1+j-(i+1)=j:=by omega
            have e2:i+1+j-i=j+1:=by omega
            rw [e1,e2];simp
  have:=aux m es.toList 0 h
  simpa using this
theorem BL {t k e:TypeId} {g:Nat} {m:List (κ×ν)} {a:κ} {s b:Nat} {d:ν} (ks:s8 P k ek) (ht:P.underlying t=some (.map k e)) (hz:bX P e=some (s,b,some (fy d)))
    (hm:oH w ek fy g m) (c:Bool):
    (Instr.lookup t (.map (some g)) (ek a) c).run P w= .ok (if c then .tuple #[fy ((getM m a).getD d),.bool (getM m a).isSome] else fy ((getM m a).getD d)) w:=by
  obtain ⟨es,clock,h1,h2⟩:=hm
  have h3:=P9 a h2
  unfold Instr.lookup
  simp only [Sem.run_bind,run_underlying ht,Result.andThen,Go.MapKept.run_getObj_map h1,Sem.run_pure,ks.Y1,ks.find a es.toList _ w (Af h2)]
  cases hf:(rD a (m.map Prod.fst) 0).bind fun j=>(es.toList[j]?).map fun e=>(j,e.val) with
  | none=>
    rw [hf] at h3
    have hg:getM m a=none:=by cases hgm:getM m a with
      | none=>rfl
      | some v=>rw [hgm] at h3;cases h3
    simp [hg,qQ hz,Result.andThen]
  | some x=>
    rw [hf] at h3
    obtain ⟨v,hg,hv⟩:∃v,getM m a=some v∧fy v=x.2:=by
      cases hgm:getM m a with
      | none=>rw [hgm] at h3;cases h3
      | some v=>rw [hgm] at h3;exact ⟨v,rfl,by simpa using h3.symm⟩
    obtain ⟨j,u⟩:=x
    simp only at hv
    simp [hg,hv,Result.andThen]
theorem AD {t k e:TypeId} {x ix:Operand} {g:Nat} {m:List (κ×ν)} (a:κ) (d:ν) {s b:Nat} (ks:s8 P k ek) (ht:P.underlying t=some (.map k e)) (hz:bX P e=some (s,b,some (fy d))) (hx:ev Γ x=some (.map (some g))) (hi:ev Γ ix=some (ek a))
    (hm:oH w ek fy g m) (kk:K (.tuple #[fy ((getM m a).getD d),.bool (getM m a).isSome]) w):aq P Γ w (.lookup t x ix true) ty K:=
  aq.of_run (fun ρ hρ=>by have:=BL (a:=a) ks ht hz hm true;simp [ex,execOp,hρ x _ hx,hρ ix _ hi,this]) kk
theorem HR {t k e:TypeId} {x ix:Operand} {g:Nat} {m:List (κ×ν)} (a:κ) (d:ν) {s b:Nat} (ks:s8 P k ek) (ht:P.underlying t=some (.map k e)) (hz:bX P e=some (s,b,some (fy d))) (hx:ev Γ x=some (.map (some g))) (hi:ev Γ ix=some (ek a))
    (hm:oH w ek fy g m) (kk:K (fy ((getM m a).getD d)) w):aq P Γ w (.lookup t x ix false) ty K:=
  aq.of_run (fun ρ hρ=>by have:=BL (a:=a) ks ht hz hm false;simp [ex,execOp,hρ x _ hx,hρ ix _ hi,this]) kk
theorem GL {t k e:TypeId} {g:Nat} {m:List (κ×ν)} {a:κ} {v:ν} (ks:s8 P k ek) (ht:P.underlying t=some (.map k e)) (hp:Hp w [dU ek fy g m]):
    ∃w',(Instr.mapUpdate t (.map (some g)) (ek a) (fy v)).run P w= .ok () w'∧ax w [dU ek fy g m] w' [dU ek fy g (iC m a v)]:=by
  obtain ⟨es,clock,h1,h2⟩:=(hp.holds (dU ek fy g m) (by simp):(dU ek fy g m).P w)
  have mk:∀es' F4,es'.toList.map (fun e=>(e.key,e.val))=(iC m a v).map (fun p=>(ek p.1,fy p.2))→ax w [dU ek fy g m] { w with heap:=w.heap.setIfInBounds g (.map es' F4) } [dU ek fy g (iC m a v)]:=fun es' F4 h3=>
    ⟨⟨fun c hc=>by simp only [List.mem_singleton] at hc;subst hc;exact ⟨es',F4,(heap_set h1).1,h3⟩,by simp [dn,dU]⟩,
      ⟨rfl,rfl,rfl,by simp,fun i hi hs=>(heap_set h1).2 i (fun e=>hs (by simp [dn,dU,e]))⟩,fun g' hg=> .inl (by simpa [dn,dU] using hg)⟩
  unfold Instr.mapUpdate
  simp only [Sem.run_bind,run_underlying ht,Result.andThen,Go.MapKept.run_getObj_map h1,Sem.run_pure,ks.Y1,ks.find a es.toList _ w (Af h2)]
  have hlen:es.toList.length=m.length:=by have:=congrArg List.length h2;simpa using this
  rcases lW a (m.map Prod.fst) 0 with ⟨hf,hn⟩|⟨j,hf,hj,TG⟩
  · rw [hf]
    refine ⟨_,by simp [Go.MapKept.run_setObj_map _ h1],mk (es.push { key:=ek a,val:=fy v,born:=clock }) (clock+1) ?_⟩
    have hg:getM m a=none:=getM_none.2 fun p hp e=>hn (List.mem_map.2 ⟨p,hp,e⟩)
    rw [B2 hg]
    simp [h2]
  · rw [hf]
    have JN:j<es.toList.length:=by
      have:=(List.getElem?_eq_some_iff.1 hj).1
      simp at this;omega
    have hjs:j<es.size:=by simpa using JN
    have XV:es[j].key=ek a:=by
      have h3:=congrArg (fun l=>l[j]?) (Af h2)
      simp only [List.getElem?_map] at h3 hj
      rw [List.getElem?_eq_getElem JN] at h3
      cases VL:m[j]? with
      | none=>rw [VL] at hj;cases hj
      | some p=>
        rw [VL] at h3 hj
        simp only [Option.map_some,Option.some.injEq] at h3 hj
        rw [←hj];simpa using h3
    simp only [Nat.zero_add,Option.bind_some,List.getElem?_eq_getElem JN,Option.map_some,Sem.run_bind,Result.andThen]
    have iu:(Instr.keyThatStays (((es[j]?).map (·.key)).getD (ek a)) (ek a)).run P w= .ok (ek a) w:=by
      unfold Instr.keyThatStays
      rw [Array.getElem?_eq_getElem hjs]
      simp only [Option.map_some,Option.getD_some,XV,ks.bits,if_true,Sem.run_pure]
    rw [iu]
    refine ⟨_,by simp [Go.MapKept.run_setObj_map _ h1],mk (es.modify j fun e=> { key:=ek a,val:=fy v,born:=e.born }) clock ?_⟩
    have Fw:∀(m:List (κ×ν)) (j:Nat),(m.map Prod.fst)[j]?=some a→(∀q,q<j→(m.map Prod.fst)[q]?≠some a)→iC m a v=m.set j (a,v):=by
      intro m
      induction m with
      | nil=>intro j h;simp at h
      | cons p r ih=>
        intro j h hq
        unfold iC
        cases j with
        | zero=>simp at h;rw [if_pos h.symm];rfl
        | succ j=>
          have h0:=hq 0 oz
          simp at h0
          rw [if_neg (fun e=>h0 e.symm)]
          rw [ih j (by simpa using h) (fun q hq'=>by simpa using hq (q+1) oz)]
          rfl
    rw [Fw m j hj TG,List.map_set,←h2]
    apply List.ext_getElem?
    intro q
    simp only [List.getElem?_map,Array.getElem?_toList,Array.getElem?_modify,List.getElem?_set,List.length_map]
    by_cases hq:j=q
    · subst hq
      simp [hjs,XV]
    · simp [hq]
theorem gN {t k e:TypeId} {x ix y:Operand} {g:Nat} {m:List (κ×ν)} (a:κ) (v:ν) (ks:s8 P k ek) (ht:P.underlying t=some (.map k e)) (hx:ev Γ x=some (.map (some g))) (hi:ev Γ ix=some (ek a)) (hy:ev Γ y=some (fy v)) (hp:Hp w [dU ek fy g m])
    (kk:∀w',ax w [dU ek fy g m] w' [dU ek fy g (iC m a v)]→K undef w'):aq P Γ w (.mapUpdate t x ix y) ty K:=by
  obtain ⟨w',h1,h2⟩:=GL (a:=a) (v:=v) ks ht hp
  exact aq.qW (fun ρ hρ=>by simp [ex,execOp,hρ x _ hx,hρ ix _ hi,hρ y _ hy,h1]) (kk w' h2)
theorem Nx {t k e:TypeId} {x ix y:Operand} {g:Nat} {m:List (κ×ν)} (a:κ) (v:ν) (ks:s8 P k ek) (ht:P.underlying t=some (.map k e)) (hx:ev Γ x=some (.map (some g))) (hi:ev Γ ix=some (ek a)) (hy:ev Γ y=some (fy v)) (hp:Hp w [dU ek fy g m])
    (kk:∀w',ax w [dU ek fy g m] w' [dU ek fy g (iC m a v)]→K undef w'):aq P Γ w (.insert t x ix y) ty K:=by
  obtain ⟨w',h1,h2⟩:=GL (a:=a) (v:=v) ks ht hp
  exact aq.qW (fun ρ hρ=>by simp [ex,execOp,hρ x _ hx,hρ ix _ hi,hρ y _ hy,h1]) (kk w' h2)
end
structure au where
  cls:List Int
  width:Int
  start:Int
  next:List Int
  acc:List Bool
def dW {α:Type} (p:α→Bool) (l:List α) (k:Nat):Int:=if h:k<l.length then (if p l[k] then (k:Int) else dW p l (k+1)) else-1
termination_by l.length-k
def ot {α:Type} (p:α→Bool) (l:List α):Int:=dW p l 0
theorem tJ {α:Type} (p:α→Bool) (l:List α) (k:Nat) {d:α} (h:k<l.length) (hp:¬p (l.getD k d)=true):dW p l k=dW p l (k+1):=by
  have:l.getD k d=l[k]:=by simp [List.getD_eq_getElem?_getD,h]
  rw [this] at hp
  rw [dW,dif_pos h,if_neg hp]
theorem rF {α:Type} (p:α→Bool) (l:List α) (k:Nat) {d:α} (h:k<l.length) (hp:p (l.getD k d)=true):dW p l k=(k:Int):=by
  have:l.getD k d=l[k]:=by simp [List.getD_eq_getElem?_getD,h]
  rw [this] at hp
  rw [dW,dif_pos h,if_pos hp]
theorem rG {α:Type} (p:α→Bool) (l:List α) (k:Nat) (h:l.length≤k):dW p l k= -1:=by
  rw [dW,dif_neg oz]
def DW (P:Program) (f:FuncId) (fc:List Value) (p:Int→Bool) (w:World):Prop:=
  ∀w':World,cM [] w w'→∀x:Int,Calls P f (#[.int .i64 x]++fc.toArray) w' (aX fun v kR=>v= .bool (p x)∧ax w' [] kR [])
theorem DW.keep {P:Program} {f:FuncId} {fc:List Value} {p:Int→Bool} {w w':World} (h:DW P f fc p w) (k:cM [] w w'):DW P f fc p w':=fun w2 k2 x=>h w2 (k.trans k2) x
theorem rH {α:Type} (p:α→Bool) (l:List α) (k:Nat):decide (dW p l k≥0)=(l.drop k).any p:=by
  rw [dW]
  split
  · rename_i h
    rw [List.drop_eq_getElem_cons h,List.any_cons]
    split
    · rename_i hp;simp [hp]
    · rename_i hp;rw [rH p l (k+1)];simp [hp]
  · rename_i h
    rw [List.drop_eq_nil_of_le oz];simp
termination_by l.length-k
theorem JZ {α:Type} (p:α→Bool) (l:List α):decide (ot p l≥0)=l.any p:=by
  unfold ot;rw [rH];simp
def fR (l:List Int) (n:Int):Bool:=l.all fun x=>decide (0≤x∧x<n)
theorem Iw (l:List Int) (n:Int):(!l.any fun x=>decide (x<0∨n≤x))=fR l n:=by
  unfold fR
  rw [List.not_any_eq_all_not]
  congr 1
  funext x
  by_cases h:0≤x∧x<n
  · have h2:¬(x<0∨n≤x):=by omega
    rw [decide_eq_true h,decide_eq_false h2];rfl
  · have h2:x<0∨n≤x:=by omega
    rw [decide_eq_false h,decide_eq_true h2];rfl
theorem lH {l:List Int} {n:Int} (h:fR l n=true) (i:Nat) (hi:i<l.length):0≤l.getD i 0∧l.getD i 0<n:=by
  unfold fR at h
  rw [List.all_eq_true] at h
  have:=h (l.getD i 0) (by rw [List.getD_eq_getElem?_getD,List.getElem?_eq_getElem hi];exact List.getElem_mem hi)
  simpa using this
def aD (d:au):Bool:=
  decide (d.cls.length=259∧1≤d.width∧d.width≤259∧1≤d.acc.length∧d.acc.length≤4096∧(d.next.length:Int)=(d.acc.length:Int)*d.width∧0≤d.start∧d.start<(d.acc.length:Int))&&
  fR d.cls d.width&&fR d.next (d.acc.length:Int)
theorem Mc {a b A B:Int} (h0:0≤a) (h1:a≤A) (h2:0≤b) (h3:b≤B):0≤a*b∧a*b≤A*B:=
  ⟨Int.mul_nonneg h0 h2,Int.mul_le_mul h1 h3 h2 oz⟩
def bO (d:au) (q:Int) (sym:Int):Int:=d.next.getD (q*d.width+d.cls.getD sym.toNat 0).toNat 0
def ej (d:au) (word:List Int) (k:Nat) (q:Int):Int:=
  if h:k<word.length then (if 0≤word[k]∧word[k]<259 then ej d word (k+1) (bO d q word[k]) else-1) else q
termination_by word.length-k
def nS (d:au) (s:Int) (word:List Int):Int:=if aD d=true∧0≤s∧s<(d.acc.length:Int) then ej d word 0 s else-1
theorem bh {d:au} :aD d=true↔(d.cls.length=259∧1≤d.width∧d.width≤259∧1≤d.acc.length∧d.acc.length≤4096∧(d.next.length:Int)=(d.acc.length:Int)*d.width∧0≤d.start∧d.start<(d.acc.length:Int))∧
    fR d.cls d.width=true∧fR d.next (d.acc.length:Int)=true:=by
  unfold aD
  simp only [Bool.and_eq_true,decide_eq_true_eq,and_assoc]
theorem eA {d:au} (hr:aD d=true) {q x:Int} (h0:0≤q) (h1:q<(d.acc.length:Int)) (h2:0≤x) (h3:x<d.width):
    0≤q*d.width∧q*d.width+x<(d.next.length:Int)∧(d.next.length:Int)≤1060864∧0≤d.next.getD (q*d.width+x).toNat 0∧d.next.getD (q*d.width+x).toNat 0<(d.acc.length:Int):=by
  obtain ⟨⟨a1,a2,a3,a4,a5,a6,a7,a8⟩,b1,b2⟩:=bh.1 hr
  have e1:0≤q*d.width:=Int.mul_nonneg h0 oz
  have e2:(q+1)*d.width≤(d.acc.length:Int)*d.width:=Int.mul_le_mul_of_nonneg_right oz oz
  have e3:(q+1)*d.width=q*d.width+d.width:=by rw [Int.add_mul,Int.one_mul]
  have e4:=(Mc (a:=(d.acc.length:Int)) (b:=d.width) (A:=4096) (B:=259) oz oz oz oz).2
  have e5:q*d.width+x<(d.next.length:Int):=by omega
  have e6:=lH b2 (q*d.width+x).toNat oz
  exact ⟨e1,e5,by omega,e6.1,e6.2⟩
theorem jX {d:au} (hr:aD d=true) {c:Int} (h0:0≤c) (h1:c<259):c.toNat<d.cls.length∧0≤d.cls.getD c.toNat 0∧d.cls.getD c.toNat 0<d.width∧d.width≤259:=by
  obtain ⟨⟨a1,a2,a3,a4,a5,a6,a7,a8⟩,b1,b2⟩:=bh.1 hr
  have:=lH b1 c.toNat oz
  exact ⟨by omega,this.1,this.2,a3⟩
theorem GM {d:au} {s:Int} {word:List Int} (h:¬(!aD d)=true) (h0:0≤s) (h1:s<(d.acc.length:Int)):nS d s word=ej d word 0 s:=by
  have:aD d=true:=by simpa using h
  unfold nS;rw [if_pos ⟨this,h0,h1⟩]
theorem oR {d:au} {s:Int} {word:List Int} (h:(!aD d)=true∨s<0∨(d.acc.length:Int)≤s):nS d s word= -1:=by
  unfold nS
  rw [if_neg]
  rintro ⟨a,b,c⟩
  rcases h with h|h|h
  · simp [a] at h
  · omega
  · omega
theorem qR {d:au} {word:List Int} {k:Nat} {q:Int} (h:k<word.length) (h0:0≤word.getD k 0) (h1:word.getD k 0<259):ej d word k q=ej d word (k+1) (d.next.getD (q*d.width+d.cls.getD (word.getD k 0).toNat 0).toNat 0):=by
  have e:word.getD k 0=word[k]:=by simp [List.getD_eq_getElem?_getD,h]
  rw [e] at h0 h1 ⊢
  rw [ej,dif_pos h,if_pos ⟨h0,h1⟩];rfl
theorem BN {d:au} {word:List Int} {k:Nat} {q:Int} (h:k<word.length) (h0:¬(0≤word.getD k 0∧word.getD k 0<259)):ej d word k q= -1:=by
  have e:word.getD k 0=word[k]:=by simp [List.getD_eq_getElem?_getD,h]
  rw [e] at h0
  rw [ej,dif_pos h,if_neg h0]
theorem th {d:au} {word:List Int} {k:Nat} {q:Int} (h:word.length≤k):ej d word k q=q:=by
  rw [ej,dif_neg oz]
theorem vj {d:au} (hr:aD d=true) (word:List Int) (k:Nat) (q:Int) (h0:0≤q) (h1:q<(d.acc.length:Int)):ej d word k q= -1∨0≤ej d word k q∧ej d word k q<(d.acc.length:Int):=by
  rw [ej]
  split
  · split
    · rename_i h
      have hs:=jX hr h.1 h.2
      have hi:=eA hr h0 h1 hs.2.1 hs.2.2.1
      exact vj hr word (k+1) _ hi.2.2.2.1 hi.2.2.2.2
    · exact .inl rfl
  · exact .inr ⟨h0,h1⟩
termination_by word.length-k
theorem O4 (d:au) (s:Int) (word:List Int):nS d s word= -1∨0≤nS d s word∧nS d s word<(d.acc.length:Int):=by
  unfold nS
  split
  · rename_i h;exact vj h.1 word 0 s h.2.1 h.2.2
  · exact .inl rfl
def fb (d:au) (word:List Int):Bool:=if 0≤nS d d.start word then d.acc.getD (nS d d.start word).toNat false else false
theorem tP {d:au} {word:List Int} (h:¬nS d d.start word≥0):fb d word=false:=by unfold fb;rw [if_neg oz]
theorem nf {d:au} {word:List Int} (h:nS d d.start word≥0):fb d word=d.acc.getD (nS d d.start word).toNat false:=by unfold fb;rw [if_pos oz]
theorem x7 {l:List Int} {n:Int} (h:∀i,i<l.length→0≤l.getD i 0∧l.getD i 0<n):fR l n=true:=by
  unfold fR
  rw [List.all_eq_true]
  intro x hx
  obtain ⟨i,hi,rfl⟩:=List.mem_iff_getElem.1 hx
  have:=h i hi
  simp only [List.getD_eq_getElem?_getD,List.getElem?_eq_getElem hi,Option.getD_some] at this
  simpa using this
theorem oF {p:Nat→Prop} {k:Nat} (h:∀i,i<k→p i) (hk:p k):∀i,i<k+1→p i:=fun i hi=>by
  rcases Nat.lt_or_ge i k with h1|h1
  · exact h i h1
  · have:i=k:=by omega
    subst this;exact hk
theorem iE {α:Type} {a b:List α} {d:α} (hl:a.length=b.length) (h:∀i,i<a.length→a.getD i d=b.getD i d):a=b:=by
  apply List.ext_getElem hl
  intro i h1 h2
  have:=h i h1
  simpa [List.getD_eq_getElem?_getD,List.getElem?_eq_getElem h1,List.getElem?_eq_getElem h2] using this
def vg (a b:au):Bool:=decide (a.cls=b.cls∧a.width=b.width∧a.start=b.start∧a.next=b.next∧a.acc=b.acc)
section
variable {P:Program} {Γ:Env} {w:World} {ty:TypeId} {K:Value→World→Prop}
theorem FU {src dst e:TypeId} {x:Operand} {a:aP} {n c:Nat} {xs:List Int} (hs:P.underlying src=some (.slice e)) (he:P.underlying e=some (.int .u8)) (hd:P.underlying dst=some .string) (hx:ev Γ x=some (.slice a n c)) (hr:bz (aw .u8) w (.slice a n c) xs)
    (k:K (.string (strOfNums xs)) w):aq P Γ w (.convert src dst x) ty K:=by
  have hn:=hr.len
  subst hn
  have Ti:(convert src dst (.slice a xs.length c)).run P w= .ok (.string (strOfNums xs)) w:=by
    obtain ⟨A,cap,hv,h1,h2,h3⟩:=hr
    cases hv
    cases a with
    | none=>
      have h0:xs=[]:=by
        cases xs with
        | nil=>rfl
        | cons y ys=>
          obtain ⟨ad,e1,_⟩:=h3 0 (.int .u8 y) (by simp [uQ])
          cases e1
      subst h0
      have h5:=run_convert_bytes_nil (P:=P) w src e hs he 0 c dst hd
      exact h5
    | some ad=>
      have hl:(loadCells ad xs.length).run P w= .ok (xs.map (Value.int .u8)).toArray w:=by
        have:=run_loadCells_list (P:=P) w ad (xs.map (Value.int .u8)) (fun j v hj=>by
          obtain ⟨ad',e1,e2⟩:=h3 j v (by rw [uQ];exact hj)
          cases e1
          exact e2)
        simpa using this
      rw [run_convert_bytes_string w src dst e _ xs.length c hs he hd,run_bytesToString w _ xs.length c xs hl,foldl_push_bytes]
      simp [strOfNums,ByteArray.empty,ByteArray.emptyWithCapacity]
      rfl
  exact aq.of_run (fun ρ hρ=>by simp [ex,execOp,hρ x _ hx,Ti]) k
end
theorem u0 {α:Type} {T:Ty α} {P:Program} {Γ:Env} {w:World} {ty:TypeId} {K:Value→World→Prop} {t:TypeId} {x:Operand} {v:Value} {xs:List α} {desc:TypeDesc} {off n s b:Nat} {z:Option Value} {us:List Value} (j:Nat) (d:α) (hT:T.sz=s) (cF:Nat.ble (off+n) s=true) (hn:Nat.blt 0 n=true) (ht:P.underlying t=some desc) (hd:kP desc=true) (hs:bX P t=some (n,b,z))
    (hx:ev Γ x=some (bu v (j*s+off))) (hr:bz T w v xs) (hj:j<xs.length) (he:((T.enc (xs.getD j d)).drop off).take n=us) (k:K (.agg us.toArray) w):aq P Γ w (.load t x) ty K:=by
  subst hT
  have hle:=Nat.le_of_ble_eq_true cF
  have KE:0<n:=of_eq_true (Eq.trans Nat.blt_eq.symm (eq_true hn))
  refine Dn us ht hd hs hx hr ?_ KE ?_ k
  · rw [←he,List.length_take,List.length_drop,T.len];omega
  · rw [←he,←T.DK d xs j hj,←List.drop_drop,List.drop_take,List.take_take,Nat.min_eq_left oz]
theorem N5 {b:Bool} (h:¬(!b)=true):b=true:=by cases b<;>simp_all
theorem Kh {b:Bool} (h:(!b)=true):¬b=true:=by cases b<;>simp_all
def dd {α:Type} [DecidableEq α] (l:List α):List α:=l.foldl (fun acc x=>if x∈acc then acc else acc++[x]) []
section
variable {α:Type} [DecidableEq α]
theorem gA (l:List α) (x:α):dd (l++[x])=if x∈dd l then dd l else dd l++[x]:=by
  unfold dd;rw [List.foldl_append];rfl
theorem eP (l:List α) (x:α):x∈dd l↔x∈l:=by
  suffices h:∀r:List α,x∈dd r.reverse↔x∈r.reverse by simpa using h l.reverse
  intro r
  induction r with
  | nil=>simp [dd]
  | cons y r ih=>
    rw [List.reverse_cons,gA]
    split
    · rename_i hy
      rw [ih];simp only [List.mem_append,List.mem_singleton]
      constructor
      · exact .inl
      · rintro (h|rfl)
        · exact h
        · exact ih.1 hy
    · simp only [List.mem_append,List.mem_singleton,ih]
theorem Nk (l:List α):(dd l).Nodup:=by
  suffices h:∀r:List α,(dd r.reverse).Nodup by simpa using h l.reverse
  intro r
  induction r with
  | nil=>simp [dd]
  | cons y r ih=>
    rw [List.reverse_cons,gA]
    split
    · exact ih
    · rename_i hy
      exact List.nodup_append.2 ⟨ih,by simp,fun a ha b hb e=>by simp at hb;subst hb;subst e;exact hy ha⟩
theorem Nl (l:List α):(dd l).length≤l.length:=by
  suffices h:∀r:List α,(dd r.reverse).length≤r.reverse.length by simpa using h l.reverse
  intro r
  induction r with
  | nil=>simp [dd]
  | cons y r ih=>
    rw [List.reverse_cons,gA]
    split
    · simp at ih ⊢;omega
    · simp at ih ⊢;omega
theorem J2 (l m:List α):∃r,dd (l++m)=dd l++r:=by
  suffices h:∀m:List α,∃r,dd (l++m.reverse)=dd l++r by simpa using h m.reverse
  intro m
  induction m with
  | nil=>exact ⟨[],by simp⟩
  | cons y m ih=>
    obtain ⟨r,hr⟩:=ih
    rw [List.reverse_cons,←List.append_assoc,gA]
    split
    · exact ⟨r,hr⟩
    · exact ⟨r++[y],by rw [hr,List.append_assoc]⟩
def ix (x:α):List α→Nat
  | []=>0
  | y::l=>if x=y then 0 else ix x l+1
theorem oi {x:α} :∀ {l:List α},x∈l→ix x l<l.length
  | y::l,h=>by
    unfold ix
    split
    · simp
    · rename_i bm
      have:=oi (x:=x) (l:=l) (by simpa [bm] using h)
      simp;omega
theorem mK {x d:α} :∀ {l:List α},x∈l→l.getD (ix x l) d=x
  | y::l,h=>by
    unfold ix
    split
    · rename_i e;simp [e]
    · rename_i bm
      simpa using mK (x:=x) (d:=d) (l:=l) (by simpa [bm] using h)
theorem qi {x:α} (r:List α):∀ {l:List α},x∈l→ix x (l++r)=ix x l
  | y::l,h=>by
    simp only [List.cons_append,ix]
    split
    · rfl
    · rename_i bm
      rw [qi r (l:=l) (by simpa [bm] using h)]
theorem MC {x y:α} {l:List α} (hx:x∈l) (hy:y∈l) (h:ix x l=ix y l):x=y:=by
  have e1:=mK (d:=x) hx
  have e2:=mK (d:=x) hy
  rw [h] at e1;exact e1.symm.trans e2
theorem Um (l m:List α) {x:α} (h:x∈dd l):ix x (dd (l++m))=ix x (dd l):=by
  obtain ⟨r,hr⟩:=J2 l m
  rw [hr,qi r h]
def sy (l:List α):List (α×Int):=(dd l).zipIdx.map fun p=>(p.1,(p.2:Int))
theorem q9 (l:List α):(sy l).length=(dd l).length:=by simp [sy]
theorem C5:∀(l:List α) (i:Nat) (x:α),getM ((l.zipIdx i).map fun p=>(p.1,(p.2:Int))) x=if x∈l then some ((i+ix x l:Nat):Int) else none
  | [],i,x=>by simp [getM]
  | y::l,i,x=>by
    simp only [List.zipIdx_cons,List.map_cons,getM,C5 l (i+1) x]
    by_cases h:x=y
    · subst h;simp [ix]
    · rw [if_neg h]
      by_cases hm:x∈l
      · rw [if_pos hm,if_pos (by simp [hm])]
        simp only [ix,if_neg h]
        congr 2;omega
      · rw [if_neg hm,if_neg (by simp [hm,h])]
theorem lO (l:List α) (x:α):getM (sy l) x=if x∈l then some ((ix x (dd l):Nat):Int) else none:=by
  have:=C5 (dd l) 0 x
  simp only [eP,Nat.zero_add] at this
  exact this
theorem L7 {l:List α} {x:α} (h:x∈l):sy (l++[x])=sy l:=by
  simp only [sy,gA];rw [if_pos ((eP l x).2 h)]
theorem Cy {l:List α} {x:α} (h:x∉l):iC (sy l) x (((sy l).length:Nat):Int)=sy (l++[x]):=by
  have h2:x∉dd l:=fun hm=>h ((eP l x).1 hm)
  rw [B2 (by rw [lO,if_neg h]),q9]
  simp [sy,gA,h2,List.zipIdx_append]
def bV (l:List α):List Int:=l.map fun x=>((ix x (dd l):Nat):Int)
end
theorem zl (v:BitVec 64):IntKind.u64.wrap ((v.toNat:Nat):Int)=((v.toNat:Nat):Int):=by
  have:=v.isLt
  simp [IntKind.wrap,IntKind.signed,IntKind.bits]
  omega
theorem n8 (v:BitVec 64):BitVec.ofInt 64 ((v.toNat:Nat):Int)=v:=by simp
section
variable {P:Program} {Γ:Env} {w:World} {ty:TypeId} {K:Value→World→Prop} {xt yt:TypeId} {x y:Operand} {a b:BitVec 64}
theorem AI (hx:ev Γ x=some (.int .u64 ((a.toNat:Nat):Int))) (hy:ev Γ y=some (.int .u64 ((b.toNat:Nat):Int))) (k:K (.int .u64 (((a|||b).toNat:Nat):Int)) w):aq P Γ w (.binOp .or xt x y yt) ty K:=
  sR (((a|||b).toNat:Nat):Int) hx hy (congrArg some (by
    show IntKind.u64.wrap ((BitVec.ofInt 64 _|||BitVec.ofInt 64 _).toNat:Int)=_
    rw [n8,n8,zl])) k
theorem uM (hx:ev Γ x=some (.int .u64 ((a.toNat:Nat):Int))) (hy:ev Γ y=some (.int .u64 ((b.toNat:Nat):Int))) (k:K (.int .u64 (((a&&&b).toNat:Nat):Int)) w):aq P Γ w (.binOp .and xt x y yt) ty K:=
  sR (((a&&&b).toNat:Nat):Int) hx hy (congrArg some (by
    show IntKind.u64.wrap ((BitVec.ofInt 64 _&&&BitVec.ofInt 64 _).toNat:Int)=_
    rw [n8,n8,zl])) k
theorem wrap_u64 (z:Int):IntKind.u64.wrap z=z%18446744073709551616:=by simp [IntKind.wrap,IntKind.signed,IntKind.bits]
theorem Qs (hx:ev Γ x=some (.int .u64 ((a.toNat:Nat):Int))) (hy:ev Γ y=some (.int .u64 ((b.toNat:Nat):Int))) (k:K (.int .u64 (((a-b).toNat:Nat):Int)) w):aq P Γ w (.binOp .sub xt x y yt) ty K:=
  k5 (((a-b).toNat:Nat):Int) hx hy (congrArg some (by
    have h1:=a.isLt;have h2:=b.isLt
    rw [wrap_u64,BitVec.toNat_sub];omega)) k
theorem Qu (hx:ev Γ x=some (.int .u64 ((a.toNat:Nat):Int))) (hy:ev Γ y=some (.int .u64 ((b.toNat:Nat):Int))) (k:K (.int .u64 (((a*b).toNat:Nat):Int)) w):aq P Γ w (.binOp .mul xt x y yt) ty K:=
  k5 (((a*b).toNat:Nat):Int) hx hy (congrArg some (by
    rw [wrap_u64,BitVec.toNat_mul,←Int.natCast_mul];omega)) k
theorem AH {ky:IntKind} {n:Nat} (hx:ev Γ x=some (.int .u64 ((a.toNat:Nat):Int))) (hy:ev Γ y=some (.int ky ((n:Nat):Int))) (hn:n<64) (k:K (.int .u64 (((a<<<n).toNat:Nat):Int)) w):aq P Γ w (.binOp .shl xt x y yt) ty K:=
  R0 hx hy oz (by
    have e:IntKind.u64.wrap (((a.toNat:Nat):Int)*2^(min ((n:Nat):Int).toNat IntKind.u64.bits))=(((a<<<n).toNat:Nat):Int):=by
      have e1:min ((n:Nat):Int).toNat IntKind.u64.bits=n:=by rw [Int.toNat_natCast];show min n 64=n;omega
      rw [e1,wrap_u64,BitVec.toNat_shiftLeft,Nat.shiftLeft_eq]
      have e2:(((a.toNat:Nat):Int)*2^n)=((a.toNat*2^n:Nat):Int):=by simp
      rw [e2];generalize a.toNat*2^n=z;omega
    rw [e];exact k)
theorem AG {ky:IntKind} {n:Nat} (hx:ev Γ x=some (.int .u64 ((a.toNat:Nat):Int))) (hy:ev Γ y=some (.int ky ((n:Nat):Int))) (hn:n<64) (k:K (.int .u64 (((a>>>n).toNat:Nat):Int)) w):aq P Γ w (.binOp .shr xt x y yt) ty K:=
  No hx hy oz (by
    have e:(((a.toNat:Nat):Int)).fdiv (2^(min ((n:Nat):Int).toNat IntKind.u64.bits))=(((a>>>n).toNat:Nat):Int):=by
      have e1:min ((n:Nat):Int).toNat IntKind.u64.bits=n:=by rw [Int.toNat_natCast];show min n 64=n;omega
      rw [e1,BitVec.toNat_ushiftRight,Nat.shiftRight_eq_div_pow]
      have e2:(2:Int)^n=((2^n:Nat):Int):=by simp
      rw [e2,Int.fdiv_eq_ediv_of_nonneg _ (Int.natCast_nonneg _)];simp
    rw [e];exact k)
theorem Un {kd ky:IntKind} {m n:Nat} (hx:ev Γ x=some (.int kd ((m:Nat):Int))) (hy:ev Γ y=some (.int ky ((n:Nat):Int))) (hn:n<kd.bits) (k:K (.int kd ((m/2^n:Nat):Int)) w):aq P Γ w (.binOp .shr xt x y yt) ty K:=
  No hx hy oz (by
    have e:((m:Nat):Int).fdiv (2^(min ((n:Nat):Int).toNat kd.bits))=((m/2^n:Nat):Int):=by
      have e1:min ((n:Nat):Int).toNat kd.bits=n:=by rw [Int.toNat_natCast];omega
      have e2:(2:Int)^n=((2^n:Nat):Int):=by simp
      rw [e1,e2,Int.fdiv_eq_ediv_of_nonneg _ (Int.natCast_nonneg _)];simp
    rw [e];exact k)
theorem AK {kd:IntKind} {m:Nat} (hm:m<256) (hk:kd= .u8∨kd= .i64) (hx:ev Γ x=some (.int kd ((m:Nat):Int))) (hy:ev Γ y=some (.int kd 63)) (k:K (.int kd ((m%64:Nat):Int)) w):aq P Γ w (.binOp .and xt x y yt) ty K:=by
  have h8:∀m:Fin 256,IntKind.u8.wrap ((BitVec.ofInt 8 ((m.val:Nat):Int)&&&BitVec.ofInt 8 63).toNat:Int)=((m.val%64:Nat):Int):=by decide+kernel
  have h64:∀m:Fin 256,IntKind.i64.wrap ((BitVec.ofInt 64 ((m.val:Nat):Int)&&&BitVec.ofInt 64 63).toNat:Int)=((m.val%64:Nat):Int):=by decide+kernel
  rcases hk with rfl|rfl
  · exact sR ((m%64:Nat):Int) hx hy (congrArg some (h8 ⟨m,hm⟩)) k
  · exact sR ((m%64:Nat):Int) hx hy (congrArg some (h64 ⟨m,hm⟩)) k
theorem Qv (hx:ev Γ x=some (.int .u64 ((a.toNat:Nat):Int))) (k:K (.int .u64 (((~~~a).toNat:Nat):Int)) w):aq P Γ w (.unOp .xor xt x) ty K:=
  aq.of_run (fun ρ hρ=>by
    have e:IntKind.u64.wrap ((BitVec.ofInt 64 18446744073709551615^^^BitVec.ofInt 64 ((a.toNat:Nat):Int)).toNat:Int)=(((~~~a).toNat:Nat):Int):=by
      rw [n8,zl]
      have h1:BitVec.ofInt 64 18446744073709551615=BitVec.allOnes 64:=by decide
      rw [h1,BitVec.allOnes_xor]
    have e2:(Op.unary .xor (.int .u64 ((a.toNat:Nat):Int))).run P w= .ok (.int .u64 (IntKind.u64.wrap ((BitVec.ofInt 64 18446744073709551615^^^BitVec.ofInt 64 ((a.toNat:Nat):Int)).toNat:Int))) w:=rfl
    rw [e] at e2
    simp [ex,execOp,hρ x _ hx,e2]) k
theorem Qt (hx:ev Γ x=some (.int .u64 ((a.toNat:Nat):Int))) (k:K (.int .u64 (((-a).toNat:Nat):Int)) w):aq P Γ w (.unOp .neg xt x) ty K:=
  aq.of_run (fun ρ hρ=>by
    have e:IntKind.u64.wrap (0-((a.toNat:Nat):Int))=(((-a).toNat:Nat):Int):=by
      have:=a.isLt
      rw [wrap_u64,BitVec.toNat_neg];omega
    have e2:(Op.unary .neg (.int .u64 ((a.toNat:Nat):Int))).run P w= .ok (.int .u64 (IntKind.u64.wrap (0-((a.toNat:Nat):Int)))) w:=rfl
    rw [e] at e2
    simp [ex,execOp,hρ x _ hx,e2]) k
end
def xL (s:List (BitVec 64)) (b:Nat):Bool:=(s.getD (b/64) 0#64).getLsbD (b%64)
theorem Lm {s t:List (BitVec 64)} (hs:s.length=4) (ht:t.length=4) (h:∀b,b<256→xL s b=xL t b):s=t:=by
  apply List.ext_getElem oz
  intro i h1 h2
  apply BitVec.eq_of_getLsbD_eq
  intro j hj
  have h3:=h (64*i+j) oz
  have e1:(64*i+j)/64=i:=by omega
  have e2:(64*i+j)%64=j:=by omega
  unfold xL at h3
  rw [e1,e2] at h3
  simpa [List.getD_eq_getElem?_getD,List.getElem?_eq_getElem h1,List.getElem?_eq_getElem h2] using h3
def QW (s:List (BitVec 64)) (b:Nat):List (BitVec 64):=s.set (b/64) ((s.getD (b/64) 0#64)|||(1#64<<<(b%64)))
theorem G4 {n i:Nat} (hn:n<64):(1#64<<<n).getLsbD i=decide (i=n):=by
  rw [BitVec.getLsbD_shiftLeft]
  by_cases h:i=n
  · subst h;simp [hn]
  · by_cases h2:i<n
    · simp [h,h2]
    · have e:i-n≠0:=by omega
      simp [h,h2,BitVec.getLsbD_one,e]
theorem has_add {s:List (BitVec 64)} {b:Nat} (hs:s.length=4) (hb:b<256) (x:Nat):xL (QW s b) x=(decide (x=b)||xL s x):=by
  unfold xL QW
  have hl:b/64<s.length:=by omega
  have hg:(s.set (b/64) ((s.getD (b/64) 0#64)|||(1#64<<<(b%64)))).getD (x/64) 0#64=if b/64=x/64 then (s.getD (b/64) 0#64)|||(1#64<<<(b%64)) else s.getD (x/64) 0#64:=by
    simp only [List.getD_eq_getElem?_getD,List.getElem?_set]
    split
    · rfl
    · rfl
  rw [hg]
  by_cases e:b/64=x/64
  · rw [if_pos e,BitVec.getLsbD_or,G4 (Nat.mod_lt _ oz),e]
    have:decide (x%64=b%64)=decide (x=b):=by
      rw [decide_eq_decide];constructor
      · intro h;omega
      · intro h;rw [h]
    rw [this,Bool.or_comm]
  · rw [if_neg e]
    have:decide (x=b)=false:=decide_eq_false (fun h=>e (by rw [h]))
    rw [this];rfl
theorem Hf {w:BitVec 64} {i:Nat} (hi:i<64):(w&&& -w).getLsbD i=(w.getLsbD i&&decide (∀j,j<i→w.getLsbD j=false))∧(w&&&(w-1#64)).getLsbD i=(w.getLsbD i&&decide (∃j,j<i∧w.getLsbD j=true)):=by
  have XP:(-w).getLsbD i=(w.getLsbD i^^decide (∃j,j<i∧w.getLsbD j=true)):=by
    rw [BitVec.getLsbD_neg];simp [hi]
  have PJ:w-1#64= ~~~(-w):=by
    rw [BitVec.not_neg]
  constructor
  · rw [BitVec.getLsbD_and,XP]
    by_cases h:∃j,j<i∧w.getLsbD j=true
    · have h2:¬ ∀j,j<i→w.getLsbD j=false:=fun h9=>by obtain ⟨j,hj,e⟩:=h;rw [h9 j hj] at e;cases e
      rw [decide_eq_true h,decide_eq_false h2];cases w.getLsbD i<;>rfl
    · have h2:∀j,j<i→w.getLsbD j=false:=fun j hj=>Bool.eq_false_iff.2 fun e=>h ⟨j,hj,e⟩
      rw [decide_eq_false h,decide_eq_true h2];cases w.getLsbD i<;>rfl
  · rw [BitVec.getLsbD_and,PJ,BitVec.getLsbD_not,XP]
    simp only [hi,decide_true,Bool.true_and]
    cases w.getLsbD i<;>cases decide (∃j,j<i∧w.getLsbD j=true)<;>rfl
theorem Mo {w:BitVec 64} (h:w≠0#64):∃k,k<64∧w.getLsbD k=true∧∀j,j<k→w.getLsbD j=false:=by
  have h1:∃i,i<64∧w.getLsbD i=true:=Classical.byContradiction fun hn=>h (BitVec.eq_of_getLsbD_eq fun i hi=>by
    have:w.getLsbD i=false:=Bool.eq_false_iff.2 fun e=>hn ⟨i,hi,e⟩
    rw [this];simp)
  obtain ⟨i,hi,e⟩:=h1
  have key:∀n,n<64→w.getLsbD n=true→∃k,k<64∧w.getLsbD k=true∧∀j,j<k→w.getLsbD j=false:=by
    intro n
    induction n using Nat.strongRecOn with
    | _ n ih=>
      intro hn he
      by_cases hx:∃j,j<n∧w.getLsbD j=true
      · obtain ⟨j,hj,e2⟩:=hx;exact ih j hj oz e2
      · exact ⟨n,hn,he,fun j hj=>Bool.eq_false_iff.2 fun e2=>hx ⟨j,hj,e2⟩⟩
  exact key i hi e
theorem Pu {w:BitVec 64} {k:Nat} (hk:k<64) (h1:w.getLsbD k=true) (h2:∀j,j<k→w.getLsbD j=false):w&&& -w=1#64<<<k:=by
  apply BitVec.eq_of_getLsbD_eq
  intro i hi
  rw [(Hf hi).1,G4 hk]
  by_cases e:i=k
  · subst e;rw [h1,decide_eq_true h2];simp
  · rw [decide_eq_false e]
    by_cases e2:i<k
    · rw [h2 i e2];rfl
    · have:¬ ∀j,j<i→w.getLsbD j=false:=fun h9=>by rw [h9 k oz] at h1;cases h1
      rw [decide_eq_false this,Bool.and_false]
def k8 (w:BitVec 64):List Nat:=(List.range 64).filter fun i=>w.getLsbD i
theorem Ay {p:Nat→Bool} {n k:Nat} (hk:k<n) (h1:p k=true) (h2:∀j,j<k→p j=false):(List.range n).filter p=k::(List.range n).filter (fun i=>p i&&decide (k<i)):=by
  have e:List.range n=List.range k++k::(List.range (n-k-1)).map (fun i=>i+(k+1)):=by
    have e1:n=k+(n-k):=by omega
    rw [e1,List.range_add]
    congr 1
    have e2:k+(n-k)-k=(n-k-1)+1:=by omega
    rw [show n-k=(n-k-1)+1 by omega,List.range_succ_eq_map,List.map_cons]
    simp only [Nat.add_zero,List.cons.injEq,true_and,List.map_map]
    rw [show k+(n-k-1+1)-k-1=n-k-1 by omega]
    apply List.map_congr_left
    intro x _
    simp only [Function.comp_apply];omega
  rw [e,List.filter_append,List.filter_append]
  have a1:(List.range k).filter p=[]:=by rw [List.filter_eq_nil_iff];intro x hx;rw [h2 x (List.mem_range.1 hx)];decide
  have a2:(List.range k).filter (fun i=>p i&&decide (k<i))=[]:=by rw [List.filter_eq_nil_iff];intro x hx;rw [h2 x (List.mem_range.1 hx)];simp
  rw [a1,a2,List.filter_cons,if_pos h1,List.filter_cons,if_neg (by simp)]
  simp only [List.nil_append,List.cons.injEq,true_and]
  apply List.filter_congr
  intro x hx
  obtain ⟨y,_,rfl⟩:=List.mem_map.1 hx
  have:decide (k<y+(k+1))=true:=decide_eq_true oz
  rw [this,Bool.and_true]
theorem Gj {w:BitVec 64} {k:Nat} (hk:k<64) (h1:w.getLsbD k=true) (h2:∀j,j<k→w.getLsbD j=false):k8 w=k::k8 (w&&&(w-1#64)):=by
  unfold k8
  rw [Ay hk h1 h2]
  congr 1
  apply List.filter_congr
  intro i hi
  rw [(Hf (List.mem_range.1 hi)).2]
  congr 1
  rw [decide_eq_decide]
  constructor
  · intro h;exact ⟨k,h,h1⟩
  · rintro ⟨j,hj,e⟩
    refine Classical.byContradiction fun hn=>?_
    rw [h2 j oz] at e;cases e
theorem Gi:k8 0#64=[]:=by
  unfold k8;rw [List.filter_eq_nil_iff];intro x _;simp
theorem S4 {w:BitVec 64} (h:w≠0#64):(w&&&(w-1#64)).toNat<w.toNat:=by
  have h0:w.toNat≠0:=fun e=>h (BitVec.eq_of_toNat_eq (by simpa using e))
  have h1:(w-1#64).toNat=w.toNat-1:=by
    have:=w.isLt
    rw [BitVec.toNat_sub];simp;omega
  rw [BitVec.toNat_and,h1]
  have:= @Nat.and_le_right w.toNat (w.toNat-1)
  omega
def AX (s:List (BitVec 64)):List Nat:=(List.range 256).filter (xL s)
theorem AW {s:List (BitVec 64)} (hs:s.length=4):AX s=(List.range 4).flatMap fun i=>(k8 (s.getD i 0#64)).map fun b=>i*64+b:=by
  have e:List.range 256=(List.range 4).flatMap fun i=>(List.range 64).map fun b=>i*64+b:=by decide+kernel
  unfold AX
  rw [e,List.filter_flatMap]
  rw [List.flatMap_def,List.flatMap_def];congr 1
  apply List.map_congr_left
  intro i hi
  have hi4:i<4:=List.mem_range.1 hi
  rw [List.filter_map]
  congr 1
  unfold k8
  apply List.filter_congr
  intro b hb
  have aiQ:b<64:=List.mem_range.1 hb
  unfold xL
  simp only [Function.comp_apply]
  rw [show (i*64+b)/64=i by omega,show (i*64+b)%64=b by omega]
structure Bs where
  w0:BitVec 64
  w1:BitVec 64
  w2:BitVec 64
  w3:BitVec 64
theorem Bs.HM {s t:Bs} (h0:s.w0=t.w0) (h1:s.w1=t.w1) (h2:s.w2=t.w2) (h3:s.w3=t.w3):s=t:=by
  cases s;cases t;simp_all
instance:DecidableEq Bs:=fun s t=>decidable_of_iff (s.w0=t.w0∧s.w1=t.w1∧s.w2=t.w2∧s.w3=t.w3) ⟨fun h=>Bs.HM h.1 h.2.1 h.2.2.1 h.2.2.2,fun h=>by subst h;exact ⟨rfl,rfl,rfl,rfl⟩⟩
def Bs.l (s:Bs):List (BitVec 64):=[s.w0,s.w1,s.w2,s.w3]
theorem Bs.Xo {s t:Bs} (h:s.l=t.l):s=t:=by
  simp only [Bs.l,List.cons.injEq,and_true] at h;exact Bs.HM h.1 h.2.1 h.2.2.1 h.2.2.2
def Bs.get (s:Bs) (i:Nat):BitVec 64:=match i with|0=>s.w0|1=>s.w1|2=>s.w2|_=>s.w3
def Bs.put (s:Bs) (i:Nat) (v:BitVec 64):Bs:=match i with|0=>⟨v,s.w1,s.w2,s.w3⟩|1=>⟨s.w0,v,s.w2,s.w3⟩|2=>⟨s.w0,s.w1,v,s.w3⟩|_=>⟨s.w0,s.w1,s.w2,v⟩
def Bs.zero:Bs:=⟨0#64,0#64,0#64,0#64⟩
theorem four {j:Nat} (h:j<4):j=0∨j=1∨j=2∨j=3:=by omega
theorem Bs.RT (s:Bs) {j:Nat} (h:j<4):s.l.getD j 0#64=s.get j:=by
  rcases four h with rfl|rfl|rfl|rfl<;>rfl
theorem Bs.WU (s:Bs) {j:Nat} (h:j<4) (v:BitVec 64):(s.put j v).l=s.l.set j v:=by
  rcases four h with rfl|rfl|rfl|rfl<;>rfl
theorem Bs.P8 (s:Bs) {i j:Nat} (hi:i<4) (hj:j<4) (v:BitVec 64):(s.put i v).get j=if j=i then v else s.get j:=by
  rcases four hi with rfl|rfl|rfl|rfl<;>rcases four hj with rfl|rfl|rfl|rfl<;>rfl
theorem Bs.ext_get {s t:Bs} (h:∀j,j<4→s.get j=t.get j):s=t:=Bs.HM (h 0 oz) (h 1 oz) (h 2 oz) (h 3 oz)
theorem R3 (s:Bs) {j:Nat} (h:j<4):(#[.int .u64 ((s.w0.toNat:Nat):Int),.int .u64 ((s.w1.toNat:Nat):Int),.int .u64 ((s.w2.toNat:Nat):Int),.int .u64 ((s.w3.toNat:Nat):Int)]:Array Value)[j]?=some (.int .u64 (((s.get j).toNat:Nat):Int)):=by
  rcases four h with rfl|rfl|rfl|rfl<;>rfl
theorem U0 (s:Bs) {j:Nat} (h:j<4) (v:BitVec 64):(#[.int .u64 ((s.w0.toNat:Nat):Int),.int .u64 ((s.w1.toNat:Nat):Int),.int .u64 ((s.w2.toNat:Nat):Int),.int .u64 ((s.w3.toNat:Nat):Int)]:Array Value).setIfInBounds j (.int .u64 ((v.toNat:Nat):Int))= #[.int .u64 (((s.put j v).w0.toNat:Nat):Int),.int .u64 (((s.put j v).w1.toNat:Nat):Int),.int .u64 (((s.put j v).w2.toNat:Nat):Int),.int .u64 (((s.put j v).w3.toNat:Nat):Int)]:=by
  rcases four h with rfl|rfl|rfl|rfl<;>rfl
section
variable {P:Program} {Γ:Env} {w:World} {ty:TypeId} {K:Value→World→Prop}
theorem fz {t e:TypeId} {x ix:Operand} {g b:Nat} {z:Option Value} {kd:IntKind} {j:Nat} (ht:P.underlying t=some (.array 4 e)) (hs:bX P e=some (1,b,z)) (hx:ev Γ x=some (.pointer (some ⟨g,0,none⟩))) (hi:ev Γ ix=some (.int kd ((j:Nat):Int)))
    (hj:j<4) (k:K (.pointer (some ⟨g,j,none⟩)) w):aq P Γ w (.indexAddr t x ix) ty K:=
  rJ ht hs hx hi oz oz (by rw [ld,Int.toNat_natCast,Nat.mul_one,Nat.zero_add];exact k)
theorem ig {t e:TypeId} {x:Operand} {g:Nat} {d:TypeDesc} {j:Nat} (s:Bs) (ht:P.underlying t=some d) (hd:kP d=false) (hx:ev Γ x=some (.pointer (some ⟨g,j,none⟩)))
    (hb:w.heap[g]?=some (.cells #[.int .u64 ((s.w0.toNat:Nat):Int),.int .u64 ((s.w1.toNat:Nat):Int),.int .u64 ((s.w2.toNat:Nat):Int),.int .u64 ((s.w3.toNat:Nat):Int)] e (0,0))) (hj:j<4) (k:K (.int .u64 (((s.get j).toNat:Nat):Int)) w):aq P Γ w (.load t x) ty K:=
  HT ht hd hx hb (R3 s hj) k
theorem l5 {t e:TypeId} {x y:Operand} {g b:Nat} {z:Option Value} {j:Nat} (s:Bs) (v:BitVec 64) (hs:bX P t=some (1,b,z)) (hx:ev Γ x=some (.pointer (some ⟨g,j,none⟩))) (hy:ev Γ y=some (.int .u64 ((v.toNat:Nat):Int)))
    (hb:w.heap[g]?=some (.cells #[.int .u64 ((s.w0.toNat:Nat):Int),.int .u64 ((s.w1.toNat:Nat):Int),.int .u64 ((s.w2.toNat:Nat):Int),.int .u64 ((s.w3.toNat:Nat):Int)] e (0,0))) (hj:j<4)
    (k:∀w',ax w [aQ g #[.int .u64 ((s.w0.toNat:Nat):Int),.int .u64 ((s.w1.toNat:Nat):Int),.int .u64 ((s.w2.toNat:Nat):Int),.int .u64 ((s.w3.toNat:Nat):Int)] e] w' [aQ g #[.int .u64 (((s.put j v).w0.toNat:Nat):Int),.int .u64 (((s.put j v).w1.toNat:Nat):Int),.int .u64 (((s.put j v).w2.toNat:Nat):Int),.int .u64 (((s.put j v).w3.toNat:Nat):Int)] e]→K undef w'):aq P Γ w (.store t x y) ty K:=
  Dl hs hx hy rfl hb (by rcases four hj with rfl|rfl|rfl|rfl<;>rfl) (fun w' hu=>k w' (by rw [U0 s hj v] at hu;exact hu))
theorem Nz {t e:TypeId} {x ix:Operand} {b:Nat} {d:TypeDesc} {z:Option Value} {kd:IntKind} {j:Nat} (s:Bs) (ht:P.underlying t=some (.array 4 e)) (he:P.underlying e=some d) (hd:kP d=false) (hs:bX P e=some (1,b,z)) (hx:ev Γ x=some (.agg #[.int .u64 ((s.w0.toNat:Nat):Int),.int .u64 ((s.w1.toNat:Nat):Int),.int .u64 ((s.w2.toNat:Nat):Int),.int .u64 ((s.w3.toNat:Nat):Int)])) (hi:ev Γ ix=some (.int kd ((j:Nat):Int)))
    (hj:j<4) (k:K (.int .u64 (((s.get j).toNat:Nat):Int)) w):aq P Γ w (.index t x ix) ty K:=
  NA ht he hd hs hx hi oz oz (by rw [Int.toNat_natCast];exact R3 s hj) k
theorem IV {t e:TypeId} {b:Nat} {z:Option Value} (s u:Bs) (ht:P.underlying t=some (.array 4 e)) (he:P.underlying e=some (.int .u64)) (hs:bX P e=some (1,b,z)):
    (Op.equalIn 10000 t (.agg #[.int .u64 ((s.w0.toNat:Nat):Int),.int .u64 ((s.w1.toNat:Nat):Int),.int .u64 ((s.w2.toNat:Nat):Int),.int .u64 ((s.w3.toNat:Nat):Int)]) (.agg #[.int .u64 ((u.w0.toNat:Nat):Int),.int .u64 ((u.w1.toNat:Nat):Int),.int .u64 ((u.w2.toNat:Nat):Int),.int .u64 ((u.w3.toNat:Nat):Int)])).run P w= .ok (decide (s=u)) w:=by
  obtain ⟨i,hi,h1,_,_⟩:=lI hs
  rw [run_equalIn_array w 9999 _ _ ht hi]
  have hc:P.cellsOf e=1:=by simp [Program.cellsOf,hi,h1]
  have hr:List.range 4=[0,1,2,3]:=by decide
  have key:∀(x y:BitVec 64),((((x.toNat:Nat):Int))==(((y.toNat:Nat):Int)))=decide (x=y):=fun x y=>by
    rw [Bool.eq_iff_iff,beq_iff_eq,decide_eq_true_eq]
    exact ⟨fun h=>BitVec.eq_of_toNat_eq oz,fun h=>by rw [h]⟩
  have hd:decide (s=u)=(decide (s.w0=u.w0)&&(decide (s.w1=u.w1)&&(decide (s.w2=u.w2)&&decide (s.w3=u.w3)))):=by
    rw [Bool.eq_iff_iff];simp only [decide_eq_true_eq,Bool.and_eq_true]
    exact ⟨fun h=>by subst h;exact ⟨rfl,rfl,rfl,rfl⟩,fun h=>Bs.HM h.1 h.2.1 h.2.2.1 h.2.2.2⟩
  rw [hr,hc,hd]
  have pt:∀(X:Array Value) (o:Nat) (v:Value),X[o]?=some v→(part e X o).run P w= .ok v w:=fun X o v h=>by simp [part,isAgg,run_underlying he,h]
  have p0:∀a b c d:Value,(part e #[a,b,c,d] 0).run P w= .ok a w:=fun a b c d=>pt _ 0 _ rfl
  have p1:∀a b c d:Value,(part e #[a,b,c,d] 1).run P w= .ok b w:=fun a b c d=>pt _ 1 _ rfl
  have p2:∀a b c d:Value,(part e #[a,b,c,d] 2).run P w= .ok c w:=fun a b c d=>pt _ 2 _ rfl
  have p3:∀a b c d:Value,(part e #[a,b,c,d] 3).run P w= .ok d w:=fun a b c d=>pt _ 3 _ rfl
  have q:∀(x y:BitVec 64),(Op.equalIn 9999 e (.int .u64 ((x.toNat:Nat):Int)) (.int .u64 ((y.toNat:Nat):Int))).run P w= .ok (decide (x=y)) w:=fun x y=>by
    rw [run_equalIn_int w 9998 e .u64 .u64 _ _ he,key]
  simp only [Op.eqItems,Sem.run_bind,Nat.mul_one,p0,Result.andThen_ok,q]
  cases decide (s.w0=u.w0)
  · simp
  simp only [Bool.not_true,Bool.false_eq_true,if_false,Sem.run_bind,p1,Result.andThen_ok,q]
  cases decide (s.w1=u.w1)
  · simp
  simp only [Bool.not_true,Bool.false_eq_true,if_false,Sem.run_bind,p2,Result.andThen_ok,q]
  cases decide (s.w2=u.w2)
  · simp
  simp only [Bool.not_true,Bool.false_eq_true,if_false,Sem.run_bind,p3,Result.andThen_ok,q]
  cases decide (s.w3=u.w3)
  · simp
  · simp
theorem FW {xt yt e:TypeId} {x y:Operand} {b:Nat} {z:Option Value} (s u:Bs) (hx:ev Γ x=some (.agg #[.int .u64 ((s.w0.toNat:Nat):Int),.int .u64 ((s.w1.toNat:Nat):Int),.int .u64 ((s.w2.toNat:Nat):Int),.int .u64 ((s.w3.toNat:Nat):Int)])) (hy:ev Γ y=some (.agg #[.int .u64 ((u.w0.toNat:Nat):Int),.int .u64 ((u.w1.toNat:Nat):Int),.int .u64 ((u.w2.toNat:Nat):Int),.int .u64 ((u.w3.toNat:Nat):Int)]))
    (ht:P.underlying xt=some (.array 4 e)) (he:P.underlying e=some (.int .u64)) (hs:bX P e=some (1,b,z)) (hm:P.eqGuardType P.depth xt=false) (k:K (.bool (decide (s≠u))) w):aq P Γ w (.binOp .neq xt x y yt) ty K:=
  aq.of_run (fun ρ hρ=>by
    simp only [ex,execOp,hρ x _ hx,hρ y _ hy,Sem.run_bind,run_eqGuard_agg w _ _ _ _ _ _ hm,run_neq_struct,Result.andThen_ok]
    rw [IV s u ht he hs];simp) k
theorem Ut {t e:TypeId} {ix:Operand} {gl n b len c:Nat} {z:Option Value} {kd:IntKind} {j:Nat} (ht:P.underlying t=some (.array len e)) (hs:bX P e=some (1,b,z)) (hi:ev Γ ix=some (.int kd ((j:Nat):Int))) (hj:j<len)
    (k:K (bu (.slice (some ⟨gl,0,none⟩) n c) j) w):aq P Γ w (.indexAddr t (.global gl) ix) ty K:=
  rJ (ad:=⟨gl,0,none⟩) ht hs rfl hi oz oz (by
    rw [Int.toNat_natCast,Nat.mul_one];exact k)
theorem FQ {kd ky:IntKind} {xt yt:TypeId} {x y:Operand} {m:Nat} (h6:6<kd.bits) (hx:ev Γ x=some (.int kd ((m:Nat):Int))) (hy:ev Γ y=some (.int ky 6)) (k:K (.int kd ((m/64:Nat):Int)) w):aq P Γ w (.binOp .shr xt x y yt) ty K:=
  Un (n:=6) hx hy h6 k
theorem mR {xt yt:TypeId} {x y:Operand} {m:Nat} (hm:m<256) (hx:ev Γ x=some (.int .u8 ((m:Nat):Int))) (hy:ev Γ y=some (.int .u8 32)) (k:K (.int .u8 ((m|||32:Nat):Int)) w):aq P Γ w (.binOp .or xt x y yt) ty K:=by
  have h8:∀m:Fin 256,IntKind.u8.wrap ((BitVec.ofInt 8 ((m.val:Nat):Int)|||BitVec.ofInt 8 32).toNat:Int)=((m.val|||32:Nat):Int):=by decide+kernel
  exact sR ((m|||32:Nat):Int) hx hy (congrArg some (h8 ⟨m,hm⟩)) k
theorem FV {xt yt:TypeId} {x y:Operand} {a b:BitVec 64} (hx:ev Γ x=some (.int .u64 ((a.toNat:Nat):Int))) (hy:ev Γ y=some (.int .u64 ((b.toNat:Nat):Int))) (k:K (.bool (decide (a=b))) w):aq P Γ w (.binOp .eql xt x y yt) ty K:=by
  have e:decide (((a.toNat:Nat):Int)=((b.toNat:Nat):Int))=decide (a=b):=by
    rw [decide_eq_decide];exact ⟨fun h=>BitVec.eq_of_toNat_eq oz,fun h=>by rw [h]⟩
  exact ND (decide (((a.toNat:Nat):Int)=((b.toNat:Nat):Int))) hx hy rfl (by rw [e];exact k)
theorem Uv {xt yt:TypeId} {x y:Operand} {a b:BitVec 64} (hx:ev Γ x=some (.int .u64 ((a.toNat:Nat):Int))) (hy:ev Γ y=some (.int .u64 ((b.toNat:Nat):Int))) (k:K (.bool (decide (a≠b))) w):aq P Γ w (.binOp .neq xt x y yt) ty K:=by
  have e:decide (((a.toNat:Nat):Int)≠((b.toNat:Nat):Int))=decide (a≠b):=by
    rw [decide_eq_decide];exact ⟨fun h h2=>h (by rw [h2]),fun h h2=>h (BitVec.eq_of_toNat_eq oz)⟩
  exact ND (decide (((a.toNat:Nat):Int)≠((b.toNat:Nat):Int))) hx hy rfl (by rw [e];exact k)
end
def qV (a b:Bs):Bs:=⟨a.w0|||b.w0,a.w1|||b.w1,a.w2|||b.w2,a.w3|||b.w3⟩
def fF (a:Bs):Bs:=⟨~~~a.w0,~~~a.w1,~~~a.w2,~~~a.w3⟩
theorem G3 (a b:Bs) {j:Nat} (h:j<4):(qV a b).get j=a.get j|||b.get j:=by rcases four h with rfl|rfl|rfl|rfl<;>rfl
theorem Cw (a:Bs) {j:Nat} (h:j<4):(fF a).get j= ~~~(a.get j):=by rcases four h with rfl|rfl|rfl|rfl<;>rfl
theorem y7 {F:BitVec 64→BitVec 64→BitVec 64} {a b r:Bs} {k:Nat} (hk:k<4) (hr:∀j,j<4→r.get j=if j<k then F (a.get j) (b.get j) else a.get j):
    ∀j,j<4→(r.put k (F (r.get k) (b.get k))).get j=if j<k+1 then F (a.get j) (b.get j) else a.get j:=by
  intro j hj
  rw [Bs.P8 _ hk hj]
  by_cases e:j=k
  · subst e;rw [if_pos rfl,if_pos oz,hr j hj,if_neg oz]
  · rw [if_neg e,hr j hj]
    by_cases e2:j<k
    · rw [if_pos e2,if_pos oz]
    · rw [if_neg e2,if_neg oz]
theorem y8 {F:BitVec 64→BitVec 64→BitVec 64} {a b r q:Bs} {k:Nat} (hk:4≤k) (hr:∀j,j<4→r.get j=if j<k then F (a.get j) (b.get j) else a.get j) (hq:∀j,j<4→q.get j=F (a.get j) (b.get j)):r=q:=
  Bs.ext_get fun j hj=>by rw [hr j hj,if_pos oz,hq j hj]
def jy (s:Bs) (c:Nat):Bs:=s.put (c/64) (s.get (c/64)|||(1#64<<<(c%64)))
def fZ (l:List Nat):Bs:=l.foldl jy Bs.zero
def Bs.has (s:Bs) (b:Nat):Bool:=(s.get (b/64)).getLsbD (b%64)
theorem C1 (s:Bs) {b:Nat} (hb:b<256):s.has b=xL s.l b:=by unfold Bs.has xL;rw [Bs.RT s oz]
theorem Bs.rI {s t:Bs} (h:∀b,b<256→s.has b=t.has b):s=t:=
  Bs.Xo (Lm rfl rfl fun b hb=>by rw [←C1 s hb,←C1 t hb];exact h b hb)
theorem dz (b:Nat):Bs.zero.has b=false:=by
  unfold Bs.has Bs.zero Bs.get;split<;>simp
theorem C2 {s:Bs} {c:Nat} (hc:c<256) {b:Nat} (hb:b<256):(jy s c).has b=(decide (b=c)||s.has b):=by
  rw [C1 _ hb,C1 _ hb]
  have e:(jy s c).l=QW s.l c:=by unfold jy QW;rw [Bs.WU _ oz,Bs.RT _ oz]
  rw [e];exact has_add rfl hc b
theorem HC (a b:Bs) {x:Nat} (hx:x<256):(qV a b).has x=(a.has x||b.has x):=by
  unfold Bs.has;rw [G3 _ _ oz,BitVec.getLsbD_or]
theorem C0 (a:Bs) {x:Nat} (hx:x<256):(fF a).has x= !a.has x:=by
  unfold Bs.has;rw [Cw _ oz,BitVec.getLsbD_not];simp [Nat.mod_lt]
theorem qp:∀(l:List Nat) (s:Bs),(∀c,c∈l→c<256)→∀x,x<256→(l.foldl jy s).has x=(decide (x∈l)||s.has x)
  | [],s,_,x,hx=>by simp
  | c::l,s,hl,x,hx=>by
    rw [List.foldl_cons,qp l _ (fun d hd=>hl d (List.mem_cons_of_mem _ hd)) x hx,C2 (hl c List.mem_cons_self) hx]
    by_cases e:x=c
    · simp [e]
    · simp [e]
theorem mO {l:List Nat} (hl:∀c,c∈l→c<256) {x:Nat} (hx:x<256):(fZ l).has x=decide (x∈l):=by
  unfold fZ;rw [qp l _ hl x hx,dz,Bool.or_false]
theorem O2 (v:BitVec 64) (n:Nat):((v>>>n)&&&1#64=1#64)↔v.getLsbD n=true:=by
  constructor
  · intro h
    have h1:((v>>>n)&&&1#64).getLsbD 0=true:=by rw [h];decide
    rw [BitVec.getLsbD_and,BitVec.getLsbD_ushiftRight] at h1
    simpa using h1
  · intro h
    apply BitVec.eq_of_getLsbD_eq
    intro i hi
    rw [BitVec.getLsbD_and,BitVec.getLsbD_ushiftRight,BitVec.getLsbD_one]
    by_cases e:i=0
    · subst e;simp [h]
    · simp [e]
theorem HB (s:Bs) (b:Nat):decide ((s.get (b/64)>>>(b%64))&&&1#64=1#64)=s.has b:=by
  rw [Bool.eq_iff_iff,decide_eq_true_eq,O2];rfl
theorem Eh {l:List Nat} {k:Nat} (hk:k<l.length) (s:Bs):(l.take (k+1)).foldl jy s=jy ((l.take k).foldl jy s) (l.getD k 0):=by
  rw [List.getD_eq_getElem?_getD,List.getElem?_eq_getElem hk,List.take_add_one,List.getElem?_eq_getElem hk,List.foldl_append];rfl
def qu:List Nat:=[0,1,56,2,57,49,28,3,61,58,42,50,38,29,17,4,62,47,59,36,45,43,51,22,53,39,33,30,24,18,12,5,63,55,48,27,60,41,37,16,46,35,44,21,52,32,23,11,54,26,40,15,34,20,31,10,25,14,19,9,13,8,7,6]
def ctz (x:BitVec 64):Nat:=if x=0#64 then 64 else qu.getD (((x&&& -x)*285870213051353865#64)>>>58).toNat 0
theorem uL:qu.length=64:=rfl
theorem GI (x:BitVec 64):(x>>>58).toNat<64:=by
  have:=x.isLt;rw [BitVec.toNat_ushiftRight,Nat.shiftRight_eq_div_pow];omega
theorem Ul:∀k:Fin 64,qu.getD (((1#64<<<k.val)*285870213051353865#64)>>>58).toNat 0=k.val:=by decide+kernel
theorem HW {x:BitVec 64} {k:Nat} (hk:k<64) (h1:x.getLsbD k=true) (h2:∀j,j<k→x.getLsbD j=false):ctz x=k:=by
  have hx:x≠0#64:=fun e=>by subst e;simp at h1
  unfold ctz
  rw [if_neg hx,Pu hk h1 h2]
  exact Ul ⟨k,hk⟩
theorem Uw {x:BitVec 64} (h:x≠0#64):ctz x<64:=by
  obtain ⟨k,hk,h1,h2⟩:=Mo h;rw [HW hk h1 h2];exact hk
theorem Ni (i:Nat):qu.getD i 0<64:=by
  by_cases h:i<64
  · exact (by decide+kernel:∀i:Fin 64,qu.getD i.val 0<64) ⟨i,h⟩
  · have e:qu.getD i 0=0:=by rw [List.getD_eq_getElem?_getD,List.getElem?_eq_none (by rw [uL];omega)];rfl
    omega
theorem NK {n:Nat} (h:n<9223372036854775808):(if IntKind.i64.signed then-(2^(IntKind.i64.bits-1):Int) else 0)≤((n:Nat):Int)∧((n:Nat):Int)≤IntKind.i64.max:=by
  simp [IntKind.signed,IntKind.bits,IntKind.max];omega
def eM:Ty Nat:=⟨1,fun x=>[.int .u8 ((x:Nat):Int)],fun _=>rfl,fun x u h=>by simp only [List.mem_singleton] at h;subst h;rfl,by omega⟩
structure Rn where
  lo:Nat
  hi:Nat
def pj:Ty Rn:=⟨2,fun d=>[.int .u8 ((d.lo:Nat):Int),.int .u8 ((d.hi:Nat):Int)],fun _=>rfl,fun d u hu=>by simp at hu;rcases hu with rfl|rfl<;>rfl,by omega⟩
structure NR where
  nm:ByteArray
  a:aP
  n:Nat
  c:Nat
  xs:List Rn
def yH:NR:=⟨.empty,none,0,0,[]⟩
def Sq:Ty NR:=⟨2,fun d=>[.string d.nm,.slice d.a d.n d.c],fun _=>rfl,fun d u hu=>by simp at hu;rcases hu with rfl|rfl<;>rfl,by omega⟩
def bj (s:Bs):List Nat:=(List.range 256).filter s.has
def AY (s:Bs) (k:Nat):List Nat:=(List.range k).flatMap fun i=>(k8 (s.get i)).map fun b=>i*64+b
theorem zf (s:Bs) (k:Nat):AY s (k+1)=AY s k++(k8 (s.get k)).map fun b=>k*64+b:=by
  unfold AY;rw [List.range_succ,List.flatMap_append];simp
theorem UZ (s:Bs):AY s 4=bj s:=by
  have e:bj s=AX s.l:=by
    unfold bj AX
    apply List.filter_congr
    intro b hb;exact C1 s (List.mem_range.1 hb)
  rw [e,AW rfl]
  unfold AY
  rw [List.flatMap_def,List.flatMap_def];congr 1
theorem Ki {x:BitVec 64} (h:x≠0#64):k8 x=ctz x::k8 (x&&&(x-1#64)):=by
  obtain ⟨k,hk,h1,h2⟩:=Mo h;rw [HW hk h1 h2];exact Gj hk h1 h2
theorem eN {s:Bs} {b:Nat} :b∈bj s↔b<256∧s.has b=true:=by
  unfold bj;rw [List.mem_filter,List.mem_range]
theorem Kj (x:BitVec 64):(k8 x).length≤64:=by
  unfold k8;exact Nat.le_trans (List.length_filter_le _ _) (by simp)
theorem DC (s:Bs):∀k,(AY s k).length≤64*k
  | 0=>by simp [AY]
  | k+1=>by rw [zf,List.length_append,List.length_map];have:=DC s k;have:=Kj (s.get k);omega
def bG (lo hi:Nat):Bs:=(List.range' lo (hi+1-lo)).foldl jy Bs.zero
theorem vp (lo n:Nat) (s:Bs):(List.range' lo (n+1)).foldl jy s=jy ((List.range' lo n).foldl jy s) (lo+n):=by
  rw [List.range'_concat,List.foldl_append];simp
theorem we {lo hi x:Nat} (hh:hi<256) (hx:x<256):(bG lo hi).has x=decide (lo≤x∧x≤hi):=by
  unfold bG
  rw [qp _ _ (fun c hc=>by have:=List.mem_range'_1.1 hc;omega) x hx,dz,Bool.or_false,decide_eq_decide,List.mem_range'_1]
  omega
def mh (l:List Rn):Bs:=l.foldl (fun s q=>qV s (bG q.lo q.hi)) Bs.zero
theorem Ee {l:List Rn} {k:Nat} (hk:k<l.length) (s:Bs):(l.take (k+1)).foldl (fun s q=>qV s (bG q.lo q.hi)) s=qV ((l.take k).foldl (fun s q=>qV s (bG q.lo q.hi)) s) (bG (l.getD k ⟨0,0⟩).lo (l.getD k ⟨0,0⟩).hi):=by
  rw [List.getD_eq_getElem?_getD,List.getElem?_eq_getElem hk,List.take_add_one,List.getElem?_eq_getElem hk,List.foldl_append];rfl
def nj:List (ByteArray×List Rn):=
  [(⟨#[97,108,110,117,109]⟩,[⟨48,57⟩,⟨65,90⟩,⟨97,122⟩]),(⟨#[97,108,112,104,97]⟩,[⟨65,90⟩,⟨97,122⟩]),(⟨#[98,108,97,110,107]⟩,[⟨9,9⟩,⟨32,32⟩]),(⟨#[99,110,116,114,108]⟩,[⟨0,31⟩,⟨127,127⟩]),
   (⟨#[100,105,103,105,116]⟩,[⟨48,57⟩]),(⟨#[103,114,97,112,104]⟩,[⟨33,126⟩]),(⟨#[108,111,119,101,114]⟩,[⟨97,122⟩]),(⟨#[112,114,105,110,116]⟩,[⟨32,126⟩]),
   (⟨#[112,117,110,99,116]⟩,[⟨33,47⟩,⟨58,64⟩,⟨91,96⟩,⟨123,126⟩]),(⟨#[115,112,97,99,101]⟩,[⟨9,13⟩,⟨32,32⟩]),(⟨#[117,112,112,101,114]⟩,[⟨65,90⟩]),(⟨#[120,100,105,103,105,116]⟩,[⟨48,57⟩,⟨65,70⟩,⟨97,102⟩])]
def bZ (name:ByteArray):Bs:=match nj.find? (fun r=>decide (r.1=name)) with|some r=>mh r.2|none=>Bs.zero
def fA (name:ByteArray):Bool:=(nj.find? (fun r=>decide (r.1=name))).isSome
theorem M7 {l:List NR} {name:ByteArray} :∀ {k:Nat},k<l.length→(∀j,j<k→(l.getD j yH).nm≠name)→(l.getD k yH).nm=name→
    (l.map fun r=>(r.nm,r.xs)).find? (fun r=>decide (r.1=name))=some ((l.getD k yH).nm,(l.getD k yH).xs):=by
  induction l with
  | nil=>intro k hk;simp at hk
  | cons r l ih=>
    intro k hk hn he
    cases k with
    | zero=>simp at he ⊢;simp [he]
    | succ k=>
      have h0:=hn 0 oz
      simp at h0
      rw [List.map_cons,List.find?_cons_of_neg (by simpa using h0)]
      have:=ih (k:=k) (by simpa using hk) (fun j hj=>by have:=hn (j+1) oz;simpa using this) (by simpa using he)
      simpa using this
theorem Ka {l:List NR} (hl:l.map (fun r=>(r.nm,r.xs))=nj) {k:Nat} {name:ByteArray} (hk:k<l.length) (hn:∀j,j<k→(l.getD j yH).nm≠name) (he:(l.getD k yH).nm=name):bZ name=mh (l.getD k yH).xs∧fA name=true:=by
  have h:=M7 hk hn he
  rw [hl] at h
  unfold bZ fA
  rw [h];exact ⟨rfl,rfl⟩
theorem F6 {l:List NR} (hl:l.map (fun r=>(r.nm,r.xs))=nj) {name:ByteArray} (hn:∀j,j<l.length→(l.getD j yH).nm≠name):bZ name=Bs.zero∧fA name=false:=by
  have h:(l.map fun r=>(r.nm,r.xs)).find? (fun r=>decide (r.1=name))=none:=by
    rw [List.find?_eq_none]
    intro x hx
    obtain ⟨r,hr,rfl⟩:=List.mem_map.1 hx
    obtain ⟨j,hj,e⟩:=List.mem_iff_getElem.1 hr
    have:=hn j hj
    rw [List.getD_eq_getElem?_getD,List.getElem?_eq_getElem hj,Option.getD_some,e] at this
    simpa using this
  rw [hl] at h
  unfold bZ fA
  rw [h];exact ⟨rfl,rfl⟩
theorem O6 {l:List NR} (hl:l.map (fun r=>(r.nm,r.xs))=nj) {k:Nat} (hk:k<l.length):∀r,r∈(l.getD k yH).xs→r.lo<256∧r.hi<256:=by
  have h:∀x,x∈nj→∀r,r∈x.2→r.lo<256∧r.hi<256:=by
    have h2:(nj.all fun x=>x.2.all fun r=>decide (r.lo<256)&&decide (r.hi<256))=true:=by decide+kernel
    intro x hx r hr
    have:=List.all_eq_true.1 (List.all_eq_true.1 h2 x hx) r hr
    simpa using this
  have hm:((l.getD k yH).nm,(l.getD k yH).xs)∈nj:=by
    rw [←hl];exact List.mem_map.2 ⟨_,ak hk,rfl⟩
  exact fun r hr=>h _ hm r hr
theorem Lp {l:List NR} (hl:l.map (fun r=>(r.nm,r.xs))=nj):l.length=12:=by
  have:=congrArg List.length hl;rw [List.length_map] at this;exact this
def jw (c:Nat):Bs:=if c=100 then bZ ⟨#[100,105,103,105,116]⟩ else if c=115 then bZ ⟨#[115,112,97,99,101]⟩ else qV (bZ ⟨#[97,108,110,117,109]⟩) (fZ [95])
def cO (c:Nat):Bs×Bool:=
  if c=110 then (fZ [10],true) else if c=116 then (fZ [9],true) else if c=114 then (fZ [13],true)
  else if c=100∨c=115∨c=119 then (jw c,true)
  else if c=68∨c=83∨c=87 then (fF (jw (c|||32)),true)
  else if (bZ ⟨#[97,108,110,117,109]⟩).has c=true then (Bs.zero,false) else (fZ [c],true)
theorem gB {x y t:Bool} (h:x=y):Value.tuple #[.bool x,.bool t]= .tuple #[.bool y,.bool t]:=by rw [h]
theorem Az {c:Nat} (h:c=68∨c=83∨c=87):c|||32=100∨c|||32=115∨c|||32=119:=by
  rcases h with rfl|rfl|rfl<;>decide
theorem Gf (s:Bs):(bj s).length≤256:=by unfold bj;exact Nat.le_trans (List.length_filter_le _ _) (by simp)
def cJ (p:Nat→Bool):Bs:=fZ ((List.range 256).filter p)
theorem sM (p:Nat→Bool) {x:Nat} (hx:x<256):(cJ p).has x=p x:=by
  unfold cJ;rw [mO (fun c hc=>List.mem_range.1 (List.mem_filter.1 hc).1) hx,Bool.eq_iff_iff,decide_eq_true_eq,List.mem_filter,List.mem_range]
  exact ⟨fun h=>h.2,fun h=>⟨hx,h⟩⟩
theorem ov {s:Bs} {p:Nat→Bool} (h:∀x,x<256→s.has x=p x):s=cJ p:=Bs.rI fun b hb=>by rw [h b hb,sM p hb]
def jk (b:Nat):Bool:=decide (65≤b∧b≤90)
def jt (b:Nat):Bool:=decide (97≤b∧b≤122)
def gR (b:Nat):Bool:=decide (48≤b∧b≤57)
def dI (name:ByteArray) (b:Nat):Bool:=
  if name=⟨#[97,108,112,104,97]⟩ then jk b||jt b
  else if name=⟨#[100,105,103,105,116]⟩ then gR b
  else if name=⟨#[97,108,110,117,109]⟩ then jk b||jt b||gR b
  else if name=⟨#[117,112,112,101,114]⟩ then jk b
  else if name=⟨#[108,111,119,101,114]⟩ then jt b
  else if name=⟨#[115,112,97,99,101]⟩ then decide (9≤b∧b≤13∨b=32)
  else if name=⟨#[98,108,97,110,107]⟩ then decide (b=9∨b=32)
  else if name=⟨#[112,117,110,99,116]⟩ then decide (33≤b∧b≤126)&& !jk b&& !jt b&& !gR b
  else if name=⟨#[103,114,97,112,104]⟩ then decide (33≤b∧b≤126)
  else if name=⟨#[112,114,105,110,116]⟩ then decide (32≤b∧b≤126)
  else if name=⟨#[99,110,116,114,108]⟩ then decide (b<32∨b=127)
  else if name=⟨#[120,100,105,103,105,116]⟩ then gR b||decide (65≤b∧b≤70∨97≤b∧b≤102)
  else false
def isOk (name:ByteArray):Bool:=
  decide (name=⟨#[97,108,112,104,97]⟩∨name=⟨#[100,105,103,105,116]⟩∨name=⟨#[97,108,110,117,109]⟩∨name=⟨#[117,112,112,101,114]⟩∨name=⟨#[108,111,119,101,114]⟩∨name=⟨#[115,112,97,99,101]⟩∨name=⟨#[98,108,97,110,107]⟩∨name=⟨#[112,117,110,99,116]⟩∨name=⟨#[103,114,97,112,104]⟩∨name=⟨#[112,114,105,110,116]⟩∨name=⟨#[99,110,116,114,108]⟩∨name=⟨#[120,100,105,103,105,116]⟩)
def ju (c x:Nat):Bool:=
  if c=110 then decide (x=10) else if c=116 then decide (x=9) else if c=114 then decide (x=13)
  else if c=100 then gR x else if c=68 then !gR x
  else if c=115 then dI ⟨#[115,112,97,99,101]⟩ x else if c=83 then !dI ⟨#[115,112,97,99,101]⟩ x
  else if c=119 then dI ⟨#[97,108,110,117,109]⟩ x||decide (x=95) else if c=87 then !dI ⟨#[97,108,110,117,109]⟩ x&&decide (x≠95)
  else decide (x=c)&& !dI ⟨#[97,108,110,117,109]⟩ x
theorem kS {r:Bs} {p:Nat→Bool} {k:Nat} (hk:k<256) (hp:p k=true) (hr:∀x,x<256→r.has x=(decide (x<k)&&p x)):∀x,x<256→(jy r k).has x=(decide (x<k+1)&&p x):=by
  intro x hx
  rw [C2 hk hx,hr x hx]
  by_cases e:x=k
  · subst e;simp [hp]
  · have:decide (x<k+1)=decide (x<k):=by rw [decide_eq_decide];omega
    rw [this];simp [e]
theorem nZ {r:Bs} {p:Nat→Bool} {k:Nat} (hp:p k=false) (hr:∀x,x<256→r.has x=(decide (x<k)&&p x)):∀x,x<256→r.has x=(decide (x<k+1)&&p x):=by
  intro x hx
  rw [hr x hx]
  by_cases e:x=k
  · subst e;simp [hp]
  · have:decide (x<k+1)=decide (x<k):=by rw [decide_eq_decide];omega
    rw [this]
def bn (s:ByteArray) (j:Nat):Nat:=(s.data.toList.getD j 0).toNat
theorem cn (s:ByteArray) (j:Nat):bn s j<256:=by unfold bn;have:=(s.data.toList.getD j 0).toNat_lt;omega
section
variable {P:Program} {Γ:Env} {w:World} {ty:TypeId} {K:Value→World→Prop} {xt yt:TypeId} {x y:Operand}
theorem J5 {t:TypeId} {ix:Operand} {s:ByteArray} {kd:IntKind} {i:Int} (j:Nat) (ht:P.underlying t=some .string) (hx:ev Γ x=some (.string s)) (hi:ev Γ ix=some (.int kd i)) (cD:i=((j:Nat):Int)) (hj:j<s.size) (k:K (.int .u8 ((bn s j:Nat):Int)) w):aq P Γ w (.index t x ix) ty K:=
  J4 j ht hx hi cD hj k
theorem wrap_u8' {z:Int} (h0:0≤z) (h1:z≤255):IntKind.u8.wrap z=z:=by
  simp only [IntKind.wrap,IntKind.signed,IntKind.bits];simp;omega
end
theorem xI {w w':World} (h:RowKit.Below w.heap.size w w'):cM [] w w':=⟨h.os,h.tape,h.output,h.size,fun k hk _=>h.block k hk⟩
theorem Bp {w w':World} (h:cM [] w w'):ax w [] w' []:=⟨Hp.nil _,h.nil,fun g hg=>by simp [dn] at hg⟩
theorem zr {w w':World} (h:RowKit.Below w.heap.size w w'):ax w [] w' []:=Bp (xI h)
section
variable {P:Program} {Γ:Env} {w:World} {ty:TypeId} {K:Value→World→Prop}
end
section
variable {P:Program} {Γ:Env} {w:World} {ty:TypeId} {K:Value→World→Prop}
theorem DL {α:Type} {T:Ty α} :∀(xs:List α) (i:Nat),T.all (xs.drop i)=(T.all xs).drop (i*T.sz)
  | [],i=>by simp [Ty.all]
  | x::xs,0=>by simp
  | x::xs,i+1=>by
    have h1:=T.len x
    rw [List.drop_succ_cons,DL xs i,Nat.succ_mul,Nat.add_comm (i*T.sz)]
    simp only [Ty.all,List.flatMap_cons]
    rw [←List.drop_drop,List.drop_left' (by rw [h1])]
end
theorem Bu {p:Prop} (h:p:=by simp [bp]):p:=h
structure Nd where
  kind:Int
  set:Bs
  lo:Int
  hi:Int
deriving DecidableEq
def cQ:Nd:=⟨0,Bs.zero,0,0⟩
inductive Tr where
  | leaf (n:Nd)
  | rep (n:Nd) (a:Tr)
  | bin (n:Nd) (a b:Tr)
def Tr.flat:Tr→List Nd
  | .leaf n=>[n]
  | .rep n a=>a.flat++[n]
  | .bin n a b=>a.flat++b.flat++[n]
def Tr.wk:Tr→Prop
  | .leaf n=>n.kind=1∨n.kind=2∨n.kind=3∨n.kind=4
  | .rep n a=>n.kind=7∧a.wk
  | .bin n a b=>(n.kind=5∨n.kind=6)∧a.wk∧b.wk
def bR (k:Int):Int:=if k=1∨k=2∨k=3∨k=4 then 0 else if k=7 then 1 else if k=5∨k=6 then 2 else-1
def Tr.root:Tr→Nd
  | .leaf n=>n
  | .rep n _=>n
  | .bin n _ _=>n
def Tr.kids:Tr→List Tr
  | .leaf _=>[]
  | .rep _ a=>[a]
  | .bin _ a b=>[a,b]
def bp (F:List Tr):List Nd:=F.flatMap Tr.flat
def Gs (F:List Tr):Prop:=∀T,T∈F→T.wk
theorem bJ (F G:List Tr):bp (F++G)=bp F++bp G:=by simp [bp]
theorem cb (T:Tr):bp [T]=T.flat:=by simp [bp]
theorem yZ:bp []=[]:=rfl
theorem dP (T:Tr):T.flat=bp T.kids++[T.root]:=by
  cases T<;>simp [Tr.flat,bp,Tr.kids,Tr.root]
theorem dV (T:Tr):0<T.flat.length:=by rw [dP];simp
theorem iR {T:Tr} (h:T.wk):Gs T.kids:=by
  cases T with
  | leaf n=>intro x hx;cases hx
  | rep n a=>intro x hx;simp [Tr.kids] at hx;subst hx;exact h.2
  | bin n a b=>intro x hx;simp [Tr.kids] at hx;rcases hx with rfl|rfl<;>first|exact h.2.1|exact h.2.2
theorem dQ {T:Tr} (h:T.wk):bR T.root.kind=(T.kids.length:Int):=by
  cases T with
  | leaf n=>simp only [Tr.wk] at h;simp [Tr.root,Tr.kids,bR,h]
  | rep n a=>simp [Tr.root,Tr.kids,bR,h.1]
  | bin n a b=>rcases h.1 with e|e<;>simp [Tr.root,Tr.kids,bR,e]
theorem oD (k:Int): -1≤bR k∧bR k≤2:=by unfold bR;split<;>(try split)<;>(try split)<;>omega
theorem Gz {n:Nd} {F:List Tr} (hF:Gs F) (hk:bR n.kind=(F.length:Int)):∃T:Tr,T.wk∧T.root=n∧T.kids=F∧T.flat=bp F++[n]:=by
  unfold bR at hk
  match F,hF,hk with
  | [],_,hk=>
    have h:n.kind=1∨n.kind=2∨n.kind=3∨n.kind=4:=by
      refine Classical.byContradiction fun h=>?_
      rw [if_neg h] at hk;split at hk<;>(try split at hk)<;>simp at hk
    exact ⟨.leaf n,h,rfl,rfl,rfl⟩
  | [a],hF,hk=>
    have h:n.kind=7:=by
      refine Classical.byContradiction fun h=>?_
      rw [if_neg h] at hk;split at hk<;>(try split at hk)<;>simp at hk
    exact ⟨.rep n a,⟨h,hF a (by simp)⟩,rfl,rfl,by simp [Tr.flat,bp]⟩
  | [a,b],hF,hk=>
    have h:n.kind=5∨n.kind=6:=by
      refine Classical.byContradiction fun h=>?_
      rw [if_neg h] at hk;split at hk<;>(try split at hk)<;>simp at hk
    exact ⟨.bin n a b,⟨h,hF a (by simp),hF b (by simp)⟩,rfl,rfl,by simp [Tr.flat,bp]⟩
  | a::b::c::F,_,hk=>
    exfalso
    simp only [List.length_cons] at hk
    split at hk
    · omega
    · split at hk
      · omega
      · split at hk<;>omega
theorem xz {T T':Tr} (h:T.wk) (h':T'.wk) (e:T.root=T'.root):T.kids.length=T'.kids.length:=by
  have a:=dQ h;have b:=dQ h';rw [e] at a;omega
theorem Sr {T T':Tr} (e1:T.root=T'.root) (e2:T.kids=T'.kids):T=T':=by
  cases T<;>cases T'<;>simp_all [Tr.root,Tr.kids]
theorem tG:∀(n:Nat) (F G:List Tr) (p q:List Nd),(bp F).length≤n→Gs F→Gs G→F.length=G.length→p++bp F=q++bp G→F=G∧p=q:=by
  intro n
  induction n with
  | zero=>
    intro F G p q hn hF hG hl e
    have:F=[]:=by
      rcases F with _|⟨T,F⟩
      · rfl
      · have h:=dV T;have e9:(bp (T::F)).length=T.flat.length+(bp F).length:=Bu;omega
    subst this
    have:G=[]:=List.length_eq_zero_iff.1 (by simpa using hl.symm)
    subst this
    exact ⟨rfl,by simpa [bp] using e⟩
  | succ n ih=>
    intro F G p q hn hF hG hl e
    rcases List.eq_nil_or_concat F with rfl|⟨F0,T,rfl⟩
    · have:G=[]:=List.length_eq_zero_iff.1 (by simpa using hl.symm)
      subst this
      exact ⟨rfl,by simpa [bp] using e⟩
    · rcases List.eq_nil_or_concat G with rfl|⟨G0,S,rfl⟩
      · simp at hl
      · rw [List.concat_eq_append] at*
        rw [List.concat_eq_append] at*
        rw [bJ,bJ,cb,cb,dP T,dP S,←List.append_assoc,←List.append_assoc,←List.append_assoc,←List.append_assoc] at e
        have h1:=List.append_inj' e rfl
        have hr:T.root=S.root:=by simpa using h1.2
        have hTw:T.wk:=hF T (by simp)
        have hSw:S.wk:=hG S (by simp)
        have hk:=xz hTw hSw hr
        have e2:p++bp (F0++T.kids)=q++bp (G0++S.kids):=by
          rw [bJ,bJ,←List.append_assoc,←List.append_assoc];exact h1.1
        have hlen:(bp (F0++T.kids)).length≤n:=by
          rw [bJ,cb,dP T] at hn
          rw [bJ]
          simp only [List.length_append,List.length_cons,List.length_nil] at hn ⊢
          omega
        have PT:F0.length=G0.length:=by simpa using hl
        have h2:=ih (F0++T.kids) (G0++S.kids) p q hlen
          (fun x hx=>by exact (List.mem_append.1 hx).elim (fun h=>hF x (by simp [h])) (fun h=>iR hTw x h))
          (fun x hx=>by exact (List.mem_append.1 hx).elim (fun h=>hG x (by simp [h])) (fun h=>iR hSw x h))
          (by simp [PT,hk]) e2
        have h3:=List.append_inj h2.1 PT
        exact ⟨by rw [h3.1,Sr hr h3.2],h2.2⟩
theorem fk {F G:List Tr} {p q:List Nd} (hF:Gs F) (hG:Gs G) (hl:F.length≤G.length) (e:p++bp F=q++bp G):∃G0,G=G0++F∧p=q++bp G0:=by
  have e1:G=G.take (G.length-F.length)++G.drop (G.length-F.length):=(List.take_append_drop _ _).symm
  rw [e1,bJ,←List.append_assoc] at e
  have h:=tG _ F (G.drop (G.length-F.length)) p (q++bp (G.take (G.length-F.length))) (Nat.le_refl _) hF (fun x hx=>hG x (List.mem_of_mem_drop hx)) im e
  exact ⟨G.take (G.length-F.length),by rw [h.1];exact e1.trans (by rw [←h.1]),h.2⟩
def Sub (l:List Nd) (i:Nat) (T:Tr):Prop:=T.wk∧i<l.length∧∃f,f≤i∧l.take (i+1)=l.take f++T.flat
theorem Sub.len {l:List Nd} {i f:Nat} {x:List Nd} (hi:i<l.length) (hf:f≤i) (e:l.take (i+1)=l.take f++x):f+x.length=i+1:=by
  have:=congrArg List.length e
  simp only [List.length_take,List.length_append] at this;omega
theorem Sub.le {l:List Nd} {i:Nat} {T:Tr} (h:Sub l i T):T.flat.length≤i+1:=by
  obtain ⟨_,hi,f,hf,e⟩:=h;have:=Sub.len hi hf e;omega
theorem Sub.eq {l:List Nd} {i:Nat} {T:Tr} (h:Sub l i T):l.take (i+1)=l.take (i+1-T.flat.length)++T.flat:=by
  obtain ⟨_,hi,f,hf,e⟩:=h;have h2:=Sub.len hi hf e
  rw [show i+1-T.flat.length=f by omega];exact e
theorem ka (l:List Nd) {i:Nat} (hi:i<l.length):l.take (i+1)=l.take i++[l.getD i cQ]:=by
  rw [List.take_add_one,List.getElem?_eq_getElem hi,List.getD_eq_getElem?_getD,List.getElem?_eq_getElem hi];rfl
theorem Sub.uniq {l:List Nd} {i:Nat} {T T':Tr} (h:Sub l i T) (h':Sub l i T'):T=T':=by
  obtain ⟨w,_,f,_,e⟩:=h;obtain ⟨w',_,f',_,e'⟩:=h'
  have:=tG _ [T] [T'] (l.take f) (l.take f') (Nat.le_refl _) (by intro x hx;simp at hx;subst hx;exact w) (by intro x hx;simp at hx;subst hx;exact w') rfl (by rw [cb,cb,←e,←e'])
  simpa using this.1
theorem Sub.root {l:List Nd} {i:Nat} {T:Tr} (h:Sub l i T):l.getD i cQ=T.root∧∃f,f≤i∧l.take i=l.take f++bp T.kids:=by
  obtain ⟨_,hi,f,hf,e⟩:=h
  rw [ka l hi,dP,←List.append_assoc] at e
  have h1:=List.append_inj' e rfl
  exact ⟨by simpa using h1.2,f,hf,h1.1⟩
theorem Sub.mk' {l:List Nd} {i f:Nat} {F:List Tr} (hi:i<l.length) (hf:f≤i) (hF:Gs F) (hk:bR (l.getD i cQ).kind=(F.length:Int)) (e:l.take i=l.take f++bp F):∃T,Sub l i T∧T.kids=F∧T.root=l.getD i cQ∧f+T.flat.length=i+1:=by
  obtain ⟨T,w,hr,JM,As⟩:=Gz hF hk
  have e2:l.take (i+1)=l.take f++T.flat:=by rw [ka l hi,As,e,List.append_assoc]
  exact ⟨T,⟨w,hi,f,hf,e2⟩,JM,hr,Sub.len hi hf e2⟩
theorem Sub.last {l:List Nd} {i f:Nat} {F:List Tr} {T:Tr} (hi:i≤l.length) (hf:f≤i) (hF:Gs (F++[T])) (e:l.take i=l.take f++bp (F++[T])):0<i∧Sub l (i-1) T∧T.flat.length≤i∧f≤i-T.flat.length∧l.take (i-T.flat.length)=l.take f++bp F:=by
  have hp:=dV T
  rw [bJ,cb,←List.append_assoc] at e
  have hl:=congrArg List.length e
  simp only [List.length_take,List.length_append] at hl
  have XS:(l.take f++bp F).length=i-T.flat.length:=by simp only [List.length_append,List.length_take];omega
  have e3:l.take (i-T.flat.length)=l.take f++bp F:=by
    have:l.take (i-T.flat.length)=(l.take i).take (i-T.flat.length):=by rw [List.take_take,Nat.min_eq_left oz]
    rw [this,e,←XS,List.take_left]
  exact ⟨by omega,⟨hF T (by simp),by omega,i-T.flat.length,by omega,by rw [show i-1+1=i by omega,e3];exact e⟩,by omega,by omega,e3⟩
theorem Sub.rep {l:List Nd} {i:Nat} {n:Nd} {a:Tr} (h:Sub l i (.rep n a)):0<i∧Sub l (i-1) a∧a.flat.length≤i:=by
  obtain ⟨_,f,hf,e⟩:=h.root
  have:=Sub.last (F:=[]) (T:=a) (by have:=h.2.1;omega) hf (by intro x hx;simp at hx;subst hx;exact h.1.2) e
  exact ⟨this.1,this.2.1,this.2.2.1⟩
theorem Sub.bin {l:List Nd} {i:Nat} {n:Nd} {a b:Tr} (h:Sub l i (.bin n a b)):0<i∧Sub l (i-1) b∧b.flat.length<i∧Sub l (i-1-b.flat.length) a:=by
  obtain ⟨_,f,hf,e⟩:=h.root
  have h1:=Sub.last (F:=[a]) (T:=b) (by have:=h.2.1;omega) hf (by intro x hx;simp at hx;rcases hx with rfl|rfl<;>first|exact h.1.2.1|exact h.1.2.2) e
  have h2:=Sub.last (F:=[]) (T:=a) (by have:=h.2.1;omega) h1.2.2.2.1 (by intro x hx;simp at hx;subst hx;exact h.1.2.1) h1.2.2.2.2
  exact ⟨h1.1,h1.2.1,by omega,by rw [show i-1-b.flat.length=i-b.flat.length-1 by omega];exact h2.2.1⟩
theorem Sub.self {T:Tr} (h:T.wk):Sub T.flat (T.flat.length-1) T:=by
  have:=dV T
  exact ⟨h,by omega,0,by omega,by rw [show T.flat.length-1+1=T.flat.length by omega];simp⟩
theorem FJ:∀(n:Nat) (F:List Tr) (l:List Nd) (i f:Nat),(bp F).length≤n→Gs F→i≤l.length→f≤i→l.take i=l.take f++bp F→∀j,f≤j→j<i→∃T,Sub l j T:=by
  intro n
  induction n with
  | zero=>
    intro F l i f hn hF hi hf e j h1 h2
    have:=congrArg List.length e
    simp only [List.length_take,List.length_append] at this;omega
  | succ n ih=>
    intro F l i f hn hF hi hf e j h1 h2
    rcases List.eq_nil_or_concat F with rfl|⟨F0,T,rfl⟩
    · have:=congrArg List.length e
      simp only [List.length_take,List.length_append,yZ,List.length_nil] at this;omega
    · rw [List.concat_eq_append] at*
      have h:=Sub.last hi hf hF e
      by_cases hj:j=i-1
      · subst hj;exact ⟨T,h.2.1⟩
      · have hTw:T.wk:=hF T (by simp)
        obtain ⟨_,f2,hf2,e2⟩:=h.2.1.root
        have hp:=dV T
        have e3:l.take (i-1)=l.take f++bp (F0++T.kids):=by
          rw [bJ,cb,dP T,←List.append_assoc,←List.append_assoc] at e
          rw [show i=(i-1)+1 by omega,ka l oz] at e
          rw [bJ,←List.append_assoc]
          exact (List.append_inj' e rfl).1
        refine ih (F0++T.kids) l (i-1) f ?_ (fun x hx=>by exact (List.mem_append.1 hx).elim (fun h=>hF x (by simp [h])) (fun h=>iR hTw x h)) oz oz e3 j h1 oz
        rw [bJ,cb,dP T] at hn
        rw [bJ]
        simp only [List.length_append,List.length_cons,List.length_nil] at hn ⊢
        omega
def cW (n:Nd):Bool:=decide ((n.kind=1∨n.set=Bs.zero)∧(if n.kind=7 then 0≤n.lo∧n.lo≤32∧(n.hi= -1∨n.lo≤n.hi∧n.hi≤32) else n.lo=0∧n.hi=0))
def mV:List Nd→Int→Option Int
  | [],c=>some c
  | n::l,c=>if bR n.kind<0∨bR n.kind>c∨¬cW n=true then none else mV l (c+(1-bR n.kind))
def dO (l:List Nd):Bool:=decide (l.length≤512)&&decide (mV l 0=some 1)
theorem pd {l:List Nd} {k:Nat} (hk:k<l.length) (c:Int):mV (l.drop k) c=if bR (l.getD k cQ).kind<0∨bR (l.getD k cQ).kind>c∨¬cW (l.getD k cQ)=true then none else mV (l.drop (k+1)) (c+(1-bR (l.getD k cQ).kind)):=by
  rw [List.drop_eq_getElem_cons hk,List.getD_eq_getElem?_getD,List.getElem?_eq_getElem hk];rfl
theorem rK:∀(a b:List Nd) (c:Int),mV (a++b) c=(mV a c).bind (mV b)
  | [],b,c=>rfl
  | n::a,b,c=>by
    rw [List.cons_append,mV,mV]
    split
    · rfl
    · exact rK a b _
theorem pb:∀(T:Tr) (c:Int),T.wk→0≤c→(∀n,n∈T.flat→cW n=true)→mV T.flat c=some (c+1)
  | .leaf n,c,h,hc,ho=>by
    have e:bR n.kind=0:=dQ (T:= .leaf n) h
    simp only [Tr.flat,mV]
    rw [if_neg (by rw [e,ho n (by simp [Tr.flat])];simp;omega),e];simp
  | .rep n a,c,h,hc,ho=>by
    have e:bR n.kind=1:=dQ (T:= .rep n a) h
    simp only [Tr.flat] at ho ⊢
    rw [rK,pb a c h.2 hc (fun x hx=>ho x (by simp [hx]))]
    simp only [Option.bind_some,mV]
    rw [if_neg (by rw [e,ho n (by simp)];simp;omega),e];simp
  | .bin n a b,c,h,hc,ho=>by
    have e:bR n.kind=2:=dQ (T:= .bin n a b) h
    simp only [Tr.flat] at ho ⊢
    rw [rK,rK,pb a c h.2.1 hc (fun x hx=>ho x (by simp [hx]))]
    simp only [Option.bind_some]
    rw [pb b (c+1) h.2.2 oz (fun x hx=>ho x (by simp [hx]))]
    simp only [Option.bind_some,mV]
    rw [if_neg (by rw [e,ho n (by simp)];simp;omega),e];congr 1;omega
theorem tO:∀(l:List Nd) (c d:Int) (F:List Tr),mV l c=some d→Gs F→(F.length:Int)=c→∃G,Gs G∧(G.length:Int)=d∧bp G=bp F++l∧∀n,n∈l→cW n=true
  | [],c,d,F,h,hF,hc=>by
    simp only [mV,Option.some.injEq] at h
    exact ⟨F,hF,by omega,by simp,by intro n hn;cases hn⟩
  | n::l,c,d,F,h,hF,hc=>by
    rw [mV] at h
    split at h
    · cases h
    · rename_i hn
      have hr:=oD n.kind
      have h1:0≤bR n.kind∧bR n.kind≤c:=by
        constructor
        · exact Int.not_lt.1 fun h9=>hn (.inl h9)
        · exact Int.not_lt.1 fun h9=>hn (.inr (.inl h9))
      have h2:cW n=true:=Classical.byContradiction fun h9=>hn (.inr (.inr h9))
      have hl:(F.drop (F.length-(bR n.kind).toNat)).length=(bR n.kind).toNat:=by simp;omega
      obtain ⟨T,hw,mL,hk,As⟩:=Gz (n:=n) (F:=F.drop (F.length-(bR n.kind).toNat)) (fun x hx=>hF x (List.mem_of_mem_drop hx)) (by rw [hl];omega)
      obtain ⟨G,g1,g2,g3,g4⟩:=tO l _ d (F.take (F.length-(bR n.kind).toNat)++[T]) h (fun x hx=>by
        rcases List.mem_append.1 hx with h9|h9
        · exact hF x (List.mem_of_mem_take h9)
        · simp at h9;subst h9;exact hw) im
      refine ⟨G,g1,g2,?_,fun x hx=>?_⟩
      · rw [g3,bJ,cb,As,←List.append_assoc,←bJ,List.take_append_drop];simp
      · rcases List.mem_cons.1 hx with rfl|h9
        · exact h2
        · exact g4 x h9
def s6 (l:List Nd):Prop:=l.length≤512∧(∀n,n∈l→cW n=true)∧∃T:Tr,T.wk∧T.flat=l
theorem kh {l:List Nd} :dO l=true↔s6 l:=by
  unfold dO s6
  rw [Bool.and_eq_true,decide_eq_true_eq,decide_eq_true_eq]
  constructor
  · rintro ⟨h1,h2⟩
    obtain ⟨G,g1,g2,g3,g4⟩:=tO l 0 1 [] h2 (by intro x hx;cases hx) rfl
    refine ⟨h1,g4,?_⟩
    match G,g1,g2,g3 with
    | [T],g1,_,g3=>exact ⟨T,g1 T (by simp),by rw [←cb,g3];simp [bp]⟩
    | [],_,g2,_=>simp at g2
    | _::_::_,_,g2,_=>simp at g2;omega
  · rintro ⟨h1,h2,T,hw,rfl⟩
    exact ⟨h1,by rw [pb T 0 hw oz h2];rfl⟩
def FsR (l:List Nd) (out:List Int):Prop:=out.length=l.length∧∀i,i<l.length→(∃T,Sub l i T∧out.getD i 0=(i:Int)+1-T.flat.length)∨((¬ ∃T,Sub l i T)∧out.getD i 0= -1)
def Q2 (l:List Nd) (k:Nat) (out:List Int):Prop:=out.length=k∧∀i,i<k→(∃T,Sub l i T∧out.getD i 0=(i:Int)+1-T.flat.length)∨((¬ ∃T,Sub l i T)∧out.getD i 0= -1)
def A6 (l:List Nd) (i:Nat) (k fr:Int):Prop:=(fr= -1∧¬ ∃T,Sub l i T)∨∃(F:List Tr) (f:Nat),fr=(f:Int)∧f≤i∧Gs F∧(F.length:Int)+k=bR (l.getD i cQ).kind∧l.take i=l.take f++bp F
theorem A6.start (l:List Nd) (i:Nat):A6 l i (bR (l.getD i cQ).kind) (i:Int):= .inr ⟨[],i,rfl,Nat.le_refl _,(by intro x hx;cases hx),(by simp),Bu⟩
theorem A6.zero {l:List Nd} {i:Nat} {k:Int} (hi:i<l.length) (hk:0<k) (h:A6 l i k 0):A6 l i (k-1) (-1):=by
  rcases h with ⟨h,_⟩|⟨F,f,e1,hf,hF,hl,e⟩
  · omega
  · have:f=0:=by omega
    subst this
    refine .inl ⟨rfl,fun ⟨T,hT⟩=>?_⟩
    obtain ⟨hr,g,hg,e2⟩:=hT.root
    have JS:=dQ hT.1
    rw [hr] at hl
    obtain ⟨G0,h1,h2⟩:=fk hF (iR hT.1) oz (e.symm.trans e2)
    have h3:G0≠[]:=by intro h9;subst h9;rw [h1] at JS;simp at JS;omega
    obtain ⟨S,G1,rfl⟩:=List.exists_cons_of_ne_nil h3
    have h4:=congrArg List.length h2
    have:=dV S
    simp [bp] at h4
    omega
theorem A6.step {l:List Nd} {i:Nat} {k fr:Int} {out:List Int} (hi:i<l.length) (ho:Q2 l i out) (hk:0<k) (pU:0<fr) (h:A6 l i k fr):A6 l i (k-1) (out.getD (fr-1).toNat 0):=by
  rcases h with ⟨h,_⟩|⟨F,f,e1,hf,hF,hl,e⟩
  · omega
  · subst e1
    rw [show ((f:Int)-1).toNat=f-1 by omega]
    have hf0:0<f:=by omega
    rcases ho.2 (f-1) oz with ⟨T,hT,VI⟩|⟨vZ,VI⟩
    · refine .inr ⟨T::F,f-T.flat.length,?_,by omega,?_,?_,?_⟩
      · have:=hT.le;rw [VI];omega
      · intro x hx;rcases List.mem_cons.1 hx with rfl|h9<;>first|exact hT.1|exact hF x h9
      · rw [List.length_cons];omega
      · have e9:=hT.eq
        rw [show f-1+1=f by omega] at e9
        rw [e,e9,show T::F=[T]++F from rfl,bJ,cb,List.append_assoc]
    · refine .inl ⟨VI,fun ⟨S,hS⟩=>vZ ?_⟩
      obtain ⟨hr,g,hg,e2⟩:=hS.root
      have JS:=dQ hS.1
      rw [hr] at hl
      obtain ⟨G0,h1,h2⟩:=fk hF (iR hS.1) oz (e.symm.trans e2)
      rcases List.eq_nil_or_concat G0 with rfl|⟨G1,T,rfl⟩
      · rw [h1] at JS;simp at JS;omega
      · rw [List.concat_eq_append] at*
        have hg2:g≤f:=by
          have:=congrArg List.length h2;simp only [List.length_take,List.length_append] at this;omega
        have:=Sub.last (l:=l) (i:=f) (f:=g) (F:=G1) (T:=T) oz hg2 (fun x hx=>iR hS.1 x (by rw [h1];exact List.mem_append_left _ hx)) h2
        exact ⟨T,this.2.1⟩
theorem Q2.push {l:List Nd} {i:Nat} {out:List Int} (ho:Q2 l i out) {x:Int} (h:(∃T,Sub l i T∧x=(i:Int)+1-T.flat.length)∨((¬ ∃T,Sub l i T)∧x= -1)):Q2 l (i+1) (out++[x]):=by
  refine ⟨by simp [ho.1],fun j hj=>?_⟩
  have hl:=ho.1
  by_cases e:j=i
  · subst e
    rw [List.getD_eq_getElem?_getD,List.getElem?_append_right oz,hl];simpa using h
  · rw [List.getD_eq_getElem?_getD,List.getElem?_append_left oz,←List.getD_eq_getElem?_getD]
    exact ho.2 j oz
theorem A6.fin {l:List Nd} {i:Nat} {k fr:Int} (hi:i<l.length) (hk:k≤0∨fr<0) (hka:k=0∨0<k) (ha:0≤bR (l.getD i cQ).kind) (h:A6 l i k fr):(∃T,Sub l i T∧fr=(i:Int)+1-T.flat.length)∨((¬ ∃T,Sub l i T)∧fr= -1):=by
  rcases h with ⟨h,hn⟩|⟨F,f,e1,hf,hF,hl,e⟩
  · exact .inr ⟨hn,h⟩
  · have MM:k=0:=by omega
    obtain ⟨T,hT,_,_,h4⟩:=Sub.mk' hi hf hF oz e
    exact .inl ⟨T,hT,by omega⟩
theorem A6.bad {l:List Nd} {i:Nat} (ha:bR (l.getD i cQ).kind<0):¬ ∃T,Sub l i T:=fun ⟨T,hT⟩=>by
  have:=dQ hT.1;rw [←hT.root.1] at this;omega
theorem Q2.done {l:List Nd} {k:Nat} {out:List Int} (h:Q2 l k out) (hk:k=l.length):FsR l out:=by subst hk;exact h
structure Tk where
  kind:Int
  pos:Int
  set:Bs
  lo:Int
  hi:Int
deriving DecidableEq
def c6:Tk:=⟨0,0,Bs.zero,0,0⟩
structure Lv where
  parts:Int
  aL:Int
def fx:Lv:=⟨0,0⟩
structure PS where
  out:List Nd
  st:List Lv
  fh:Bool
def nd (k:Int):Nd:=⟨k,Bs.zero,0,0⟩
def iU (l:List Lv):Lv:=l.getD (l.length-1) fx
def dY (l:List Lv) (t:Lv):List Lv:=l.set (l.length-1) t
def aO (p:PS):PS:=if p.fh=true then ⟨if (iU p.st).parts+1>1 then p.out++[nd 5] else p.out,dY p.st ⟨(iU p.st).parts+1,(iU p.st).aL⟩,false⟩ else p
def eX (p:PS) (n:Nd):PS:=⟨(aO p).out++[n],(aO p).st,true⟩
def vx (o:List Nd) (c:Int):List Nd:=if c>1 then o++[nd 6] else o
def kt (o:List Nd) (c:Int):List Nd:=if c=0 then o++[nd 2] else o
def bD (p:PS):PS:=⟨vx (kt (aO p).out (iU (aO p).st).parts) ((iU (aO p).st).aL+1),dY (aO p).st ⟨0,(iU (aO p).st).aL+1⟩,false⟩
def kj (p:PS):PS:=⟨(aO p).out,(aO p).st++[fx],false⟩
def iN (p:PS):PS:=⟨(bD p).out,(bD p).st.take ((bD p).st.length-1),true⟩
def cX (t:Tk):Prop:=t.lo<0∨t.lo>32∨t.hi≠ -1∧(t.hi<t.lo∨t.hi>32)
instance (t:Tk):Decidable (cX t):=by unfold cX;exact inferInstance
def dM (p:PS) (t:Tk):Int:=
  if t.kind=1∨t.kind=6∨t.kind=7∨t.kind=2 then 0
  else if t.kind=5 then (if cX t then 9 else if p.fh=true then 0 else 3)
  else if t.kind=3 then (if p.st.length>20 then 4 else 0)
  else if t.kind=4 then (if p.st.length=1 then 3 else 0)
  else 9
def fC (p:PS) (t:Tk):PS:=
  if dM p t≠0 then p
  else if t.kind=1 then eX p ⟨1,t.set,0,0⟩
  else if t.kind=6 then eX p (nd 3)
  else if t.kind=7 then eX p (nd 4)
  else if t.kind=2 then bD p
  else if t.kind=5 then ⟨p.out++[⟨7,Bs.zero,t.lo,t.hi⟩],p.st,p.fh⟩
  else if t.kind=3 then kj p
  else iN p
def LI:PS:=⟨[],[fx],false⟩
def dE (l:List Tk) (k:Nat):PS:=(l.take k).foldl fC LI
theorem ke (l:List Tk):dE l 0=LI:=rfl
theorem gW {l:List Tk} {k:Nat} (hk:k<l.length):dE l (k+1)=fC (dE l k) (l.getD k c6):=by
  unfold dE
  rw [List.take_add_one,List.getElem?_eq_getElem hk,List.getD_eq_getElem?_getD,List.getElem?_eq_getElem hk,List.foldl_append];rfl
def eO (l:List Tk) (k:Nat):Int:=dM (dE l k) (l.getD k c6)
theorem mv (l:List Lv) (t:Lv):(dY l t).length=l.length:=by simp [dY]
theorem di (p:PS):(aO p).st.length=p.st.length:=by unfold aO;split<;>simp [mv]
theorem gO (p:PS):(bD p).st.length=p.st.length:=by simp [bD,mv,di]
theorem yP (p:PS):(aO p).fh=false:=by
  unfold aO
  split
  · rfl
  · rename_i h;simpa using h
theorem qJ {l:List Lv} (h:l≠[]) (t:Lv):iU (dY l t)=t:=by
  have:0<l.length:=List.length_pos_iff.2 h
  unfold iU
  rw [mv]
  unfold dY
  rw [List.getD_eq_getElem?_getD,List.getElem?_set_self oz];rfl
theorem p8 (l:List Lv) (s t:Lv):dY (dY l s) t=dY l t:=by
  unfold dY;simp
theorem p9 (l:List Lv) (s t:Lv):dY (l++[s]) t=l++[t]:=by
  unfold dY;simp
theorem uW (l:List Lv) (s:Lv):iU (l++[s])=s:=by
  unfold iU;simp
theorem Bz {p:PS} {t:Tk} (h:dM p t=0):(fC p t).st.length=(if t.kind=3 then p.st.length+1 else if t.kind=4 then p.st.length-1 else p.st.length):=by
  unfold fC
  rw [if_neg (by simpa using h)]
  by_cases h1:t.kind=1
  · simp [h1,eX,di]
  by_cases h2:t.kind=6
  · simp [h2,eX,di]
  by_cases h3:t.kind=7
  · simp [h3,eX,di]
  by_cases h4:t.kind=2
  · simp [h4,gO]
  by_cases h5:t.kind=5
  · simp [h5]
  by_cases h6:t.kind=3
  · simp [h6,kj,di]
  by_cases h7:t.kind=4
  · simp [h7,iN,gO]
  · exfalso;unfold dM at h;simp [h1,h2,h3,h4,h5,h6,h7] at h
theorem By {p:PS} {t:Tk} (h:dM p t=0):(fC p t).fh=decide (t.kind=1∨t.kind=6∨t.kind=7∨t.kind=5∨t.kind=4):=by
  unfold fC
  rw [if_neg (by simpa using h)]
  by_cases h1:t.kind=1
  · simp [h1,eX]
  by_cases h2:t.kind=6
  · simp [h2,eX]
  by_cases h3:t.kind=7
  · simp [h3,eX]
  by_cases h4:t.kind=2
  · simp [h4,bD]
  by_cases h5:t.kind=5
  · have:p.fh=true:=by
      unfold dM at h
      rw [if_neg oz,if_pos h5] at h
      split at h
      · omega
      · split at h
        · assumption
        · omega
    simp [h5,this]
  by_cases h6:t.kind=3
  · simp [h6,kj]
  by_cases h7:t.kind=4
  · simp [h7,iN]
  · exfalso;unfold dM at h;simp [h1,h2,h3,h4,h5,h6,h7] at h
theorem KY {p:PS} {t:Tk} (hp:0<p.st.length):0<(fC p t).st.length:=by
  by_cases h:dM p t=0
  · rw [Bz h]
    split
    · omega
    · split
      · rename_i h3 h4
        have:p.st.length≠1:=by
          intro h9;unfold dM at h
          rw [if_neg oz,if_neg oz,if_neg oz,if_pos h4,if_pos h9] at h;omega
        omega
      · exact hp
  · unfold fC;rw [if_pos h];exact hp
theorem gX (l:List Tk):∀k,0<(dE l k).st.length
  | 0=>by simp [ke,LI]
  | k+1=>by
    by_cases h:k<l.length
    · rw [gW h];exact KY (gX l k)
    · have:dE l (k+1)=dE l k:=by unfold dE;rw [List.take_of_length_le oz,List.take_of_length_le oz]
      rw [this];exact gX l k
def DT (l:List Tk) (e:Int) (out:List Nd) (at_ er:Int):Prop:=
  (∃k,k<l.length∧(∀j,j<k→eO l j=0)∧eO l k≠0∧out=[]∧at_=(l.getD k c6).pos∧er=eO l k)∨
  ((∀j,j<l.length→eO l j=0)∧(((dE l l.length).st.length>1∧out=[]∧at_=e∧er=3)∨((dE l l.length).st.length=1∧
    (((bD (dE l l.length)).out.length>512∧out=[]∧at_=0∧er=4)∨((bD (dE l l.length)).out.length≤512∧out=(bD (dE l l.length)).out∧at_=0∧er=0)))))
theorem DT.uniq {l:List Tk} {e:Int} {o o':List Nd} {a a' r r':Int} (h:DT l e o a r) (h':DT l e o' a' r'):o=o'∧a=a'∧r=r':=by
  have key:∀ {k k':Nat},(∀j,j<k→eO l j=0)→eO l k≠0→(∀j,j<k'→eO l j=0)→eO l k'≠0→k=k':=fun {k k'} h1 h2 h3 h4=>by
    rcases Nat.lt_trichotomy k k' with h|h|h
    · exact absurd (h3 _ h) h2
    · exact h
    · exact absurd (h1 _ h) h4
  rcases h with ⟨k,hk,h1,h2,rfl,rfl,rfl⟩|⟨h1,h2⟩<;>rcases h' with ⟨k',hk',uI,uH,rfl,rfl,rfl⟩|⟨uI,uH⟩
  · have:=key h1 h2 uI uH;subst this;exact ⟨rfl,rfl,rfl⟩
  · exact absurd (uI k hk) h2
  · exact absurd (h1 k' hk') uH
  · rcases h2 with ⟨a1,rfl,rfl,rfl⟩|⟨a1,⟨a2,rfl,rfl,rfl⟩|⟨a2,rfl,rfl,rfl⟩⟩<;>rcases uH with ⟨b1,rfl,rfl,rfl⟩|⟨b1,⟨b2,rfl,rfl,rfl⟩|⟨b2,rfl,rfl,rfl⟩⟩<;>first|exact ⟨rfl,rfl,rfl⟩|omega
def Od (l:List Tk) (i:Nat) (op:Int):Prop:=(∀j,j<i→eO l j=0)∧op+1=((dE l i).st.length:Int)
theorem Od.start (l:List Tk):Od l 0 0:=⟨fun j hj=>by omega,rfl⟩
def lj (l:List Tk) (i:Nat):Prop:=0<i∧((l.getD (i-1) c6).kind=1∨(l.getD (i-1) c6).kind=6∨(l.getD (i-1) c6).kind=7∨(l.getD (i-1) c6).kind=5∨(l.getD (i-1) c6).kind=4)
theorem gY {l:List Tk} {i:Nat} (hi:i≤l.length) (h:∀j,j<i→eO l j=0):(dE l i).fh=true↔lj l i:=by
  cases i with
  | zero=>simp [ke,LI,lj]
  | succ i=>rw [gW oz,By (h i oz),decide_eq_true_eq];unfold lj;simp
def VW (l:List Tk) (i e op:Int):Prop:=(i= -1∧e=0∧(∀j,j<l.length→eO l j=0)∧op+1=((dE l l.length).st.length:Int))∨∃k,k<l.length∧i=(k:Int)∧(∀j,j<k→eO l j=0)∧eO l k≠0∧e=eO l k
theorem Od.bad {l:List Tk} {i:Nat} {op e:Int} (h:Od l i op) (hi:i<l.length) (he:eO l i=e) (bm:e≠0):VW l (i:Int) e op:= .inr ⟨i,hi,rfl,h.1,by rw [he];exact bm,he.symm⟩
theorem Od.next {l:List Tk} {i:Nat} {op op':Int} (h:Od l i op) (hi:i<l.length) (he:eO l i=0) (ho:op'=(if (l.getD i c6).kind=3 then op+1 else if (l.getD i c6).kind=4 then op-1 else op)):Od l (i+1) op':=by
  refine ⟨fun j hj=>?_,?_⟩
  · by_cases e:j=i
    · subst e;exact he
    · exact h.1 j oz
  · rw [gW hi,Bz he,ho]
    have:=h.2
    have hp:=gX l i
    split
    · push_cast;omega
    · split
      · omega
      · exact this
theorem Od.fin {l:List Tk} {i:Nat} {op:Int} (h:Od l i op) (hi:i=l.length):VW l (-1) 0 op:=by subst hi;exact .inl ⟨rfl,rfl,h.1,h.2⟩
theorem y6 {l:List Tk} {i:Nat} (h:(l.getD i c6).kind<1∨(l.getD i c6).kind>7):eO l i=9:=by
  unfold eO dM;rw [if_neg oz,if_neg oz,if_neg oz,if_neg oz]
theorem Dg {l:List Tk} {i:Nat} (h:(l.getD i c6).kind=5) (hb:cX (l.getD i c6)):eO l i=9:=by
  unfold eO dM;rw [if_neg oz,if_pos h,if_pos hb]
theorem y5 {l:List Tk} {i:Nat} (h:(l.getD i c6).kind=5) (hb:¬cX (l.getD i c6)) (hr:¬(dE l i).fh=true):eO l i=3:=by
  unfold eO dM;rw [if_neg oz,if_pos h,if_neg hb,if_neg hr]
theorem gL {l:List Tk} {i:Nat} (h:(l.getD i c6).kind=5) (hb:¬cX (l.getD i c6)) (hr:(dE l i).fh=true):eO l i=0:=by
  unfold eO dM;rw [if_neg oz,if_pos h,if_neg hb,if_pos hr]
theorem fl {l:List Tk} {i:Nat} (h:(l.getD i c6).kind=3):eO l i=if (dE l i).st.length>20 then 4 else 0:=by
  unfold eO dM;rw [if_neg oz,if_neg oz,if_pos h]
theorem cZ {l:List Tk} {i:Nat} (h:(l.getD i c6).kind=4):eO l i=if (dE l i).st.length=1 then 3 else 0:=by
  unfold eO dM;rw [if_neg oz,if_neg oz,if_neg oz,if_pos h]
theorem gM {l:List Tk} {i:Nat} (h:(l.getD i c6).kind=1∨(l.getD i c6).kind=6∨(l.getD i c6).kind=7∨(l.getD i c6).kind=2):eO l i=0:=by
  unfold eO dM;rw [if_pos h]
def dG (l:List Tk):Prop:=(∀j,j<l.length→eO l j=0)∧(dE l l.length).st.length=1
theorem dG.next {l:List Tk} (h:dG l) {i:Nat} (hi:i<l.length):dE l (i+1)=(let t:=l.getD i c6;if t.kind=1 then eX (dE l i) ⟨1,t.set,0,0⟩ else if t.kind=6 then eX (dE l i) (nd 3) else if t.kind=7 then eX (dE l i) (nd 4)
    else if t.kind=2 then bD (dE l i) else if t.kind=5 then ⟨(dE l i).out++[⟨7,Bs.zero,t.lo,t.hi⟩],(dE l i).st,(dE l i).fh⟩ else if t.kind=3 then kj (dE l i) else iN (dE l i)):=by
  rw [gW hi];unfold fC
  rw [if_neg (by have:=h.1 i hi;unfold eO at this;simpa using this)]
theorem dG.kind {l:List Tk} (h:dG l) {i:Nat} (hi:i<l.length):1≤(l.getD i c6).kind∧(l.getD i c6).kind≤7:=by
  refine Classical.byContradiction fun h9=>?_
  have:=h.1 i hi
  rw [y6 oz] at this;omega
def dF (l:List Tk) (at_:Nat) (x:List Nd) (nx:Nat):Prop:=at_<nx∧nx≤l.length∧dE l nx=⟨(aO (dE l at_)).out++x,(aO (dE l at_)).st,true⟩
def DX (l:List Tk) (at_:Nat) (x:List Nd) (nx:Nat):Prop:=at_≤nx∧nx≤l.length∧(nx<l.length→(l.getD nx c6).kind=2∨(l.getD nx c6).kind=4)∧
  ((dE l at_).fh=false→(iU (dE l at_).st).parts=0→bD (dE l nx)=⟨vx ((dE l at_).out++x) ((iU (dE l at_).st).aL+1),dY (dE l at_).st ⟨0,(iU (dE l at_).st).aL+1⟩,false⟩)
def rY (l:List Tk) (at_:Nat) (x:List Nd) (nx:Nat):Prop:=at_≤nx∧nx≤l.length∧(nx<l.length→(l.getD nx c6).kind=4)∧
  ((dE l at_).fh=false→iU (dE l at_).st=fx→∃c,bD (dE l nx)=⟨(dE l at_).out++x,dY (dE l at_).st ⟨0,c⟩,false⟩)
def A8 (l:List Tk) (at_:Nat) (out:List Nd) (many:Int) (i:Nat):Prop:=at_≤i∧i≤l.length∧0≤many∧(many=0→out=[]∧i=at_)∧
  ((dE l at_).fh=false→(iU (dE l at_).st).parts=0→many≠0→aO (dE l i)=⟨(dE l at_).out++out,dY (dE l at_).st ⟨many,(iU (dE l at_).st).aL⟩,false⟩)
theorem Lg (l:List Tk) (k:Nat):(dE l k).st≠[]:=List.length_pos_iff.1 (gX l k)
theorem vT {p:PS} (h:p.fh=false):aO p=p:=by unfold aO;rw [if_neg (by rw [h];decide)]
theorem A8.start (l:List Tk) {at_:Nat} (h:at_≤l.length):A8 l at_ [] 0 at_:=⟨Nat.le_refl _,h,by omega,fun _=>⟨rfl,rfl⟩,fun _ _ h9=>absurd rfl h9⟩
theorem A8.step {l:List Tk} {at_ i nx:Nat} {out x:List Nd} {many:Int} (h:A8 l at_ out many i) (hp:dF l i x nx):A8 l at_ (if many+1>1 then (out++x)++[nd 5] else out++x) (many+1) nx:=by
  obtain ⟨h1,h2,h3,h4,h5⟩:=h
  obtain ⟨p1,p2,p3⟩:=hp
  refine ⟨by omega,p2,by omega,fun h9=>by omega,fun hr ht _=>?_⟩
  have bm:=Lg l at_
  by_cases hm:many=0
  · obtain ⟨rfl,rfl⟩:=h4 hm
    subst hm
    rw [p3,vT hr]
    unfold aO
    rw [if_pos rfl,ht]
    simp
  · rw [p3,h5 hr ht hm]
    unfold aO
    rw [if_pos rfl,qJ bm,p8]
    simp only
    by_cases Fy:many+1>1
    · rw [if_pos Fy,if_pos Fy];simp
    · rw [if_neg Fy,if_neg Fy];simp
theorem A8.fin {l:List Tk} {at_ i:Nat} {out x:List Nd} {many:Int} (h:A8 l at_ out many i) (hk:i<l.length→(l.getD i c6).kind=2∨(l.getD i c6).kind=4) (hx:x=if many=0 then [nd 2] else out):DX l at_ x i:=by
  obtain ⟨h1,h2,h3,h4,h5⟩:=h
  refine ⟨h1,h2,hk,fun hr ht=>?_⟩
  have bm:=Lg l at_
  by_cases hm:many=0
  · obtain ⟨rfl,rfl⟩:=h4 hm
    rw [if_pos hm] at hx;subst hx
    unfold bD
    rw [vT hr,ht];simp [kt]
  · rw [if_neg hm] at hx;subst hx
    unfold bD
    rw [h5 hr ht hm]
    simp only
    rw [qJ bm,p8]
    simp only [kt]
    rw [if_neg hm]
def xZ (l:List Tk) (at_:Nat) (out:List Nd) (i:Nat):Prop:=at_≤i∧i≤l.length∧(i<l.length→(l.getD i c6).kind=2∨(l.getD i c6).kind=4)∧
  ((dE l at_).fh=false→iU (dE l at_).st=fx→∃c,1≤c∧bD (dE l i)=⟨(dE l at_).out++out,dY (dE l at_).st ⟨0,c⟩,false⟩)
theorem xZ.start {l:List Tk} {at_ nx:Nat} {x:List Nd} (h:DX l at_ x nx):xZ l at_ x nx:=by
  obtain ⟨h1,h2,h3,h4⟩:=h
  refine ⟨h1,h2,h3,fun hr ht=>⟨1,by omega,?_⟩⟩
  rw [h4 hr (by rw [ht];rfl),ht];simp [vx,fx]
theorem xZ.step {l:List Tk} (hg:dG l) {at_ i nx:Nat} {out x:List Nd} (h:xZ l at_ out i) (hi:i<l.length) (hk:(l.getD i c6).kind=2) (hb:DX l (i+1) x nx):xZ l at_ ((out++x)++[nd 6]) nx:=by
  obtain ⟨h1,h2,h3,h4⟩:=h
  obtain ⟨b1,b2,b3,b4⟩:=hb
  refine ⟨by omega,b2,b3,fun hr ht=>?_⟩
  obtain ⟨c,hc,e⟩:=h4 hr ht
  have hs:dE l (i+1)=bD (dE l i):=by rw [hg.next hi];simp only [hk];simp
  have bm:=Lg l at_
  rw [hs,e] at b4
  have:=b4 rfl (by simp only;rw [qJ bm])
  simp only at this
  rw [qJ bm,p8] at this
  refine ⟨c+1,by omega,?_⟩
  rw [this]
  unfold vx
  rw [if_pos (by simp only;omega)]
  simp
theorem xZ.fin {l:List Tk} {at_ i:Nat} {out:List Nd} (h:xZ l at_ out i) (hk:i<l.length→¬(l.getD i c6).kind=2):rY l at_ out i:=by
  obtain ⟨h1,h2,h3,h4⟩:=h
  exact ⟨h1,h2,fun hi=>(h3 hi).resolve_left (hk hi),fun hr ht=>by obtain ⟨c,_,e⟩:=h4 hr ht;exact ⟨c,e⟩⟩
theorem dF.leaf {l:List Tk} (hg:dG l) {at_:Nat} {n:Nd} (h:at_<l.length) (hk:(l.getD at_ c6).kind=1∧n=⟨1,(l.getD at_ c6).set,0,0⟩∨(l.getD at_ c6).kind=6∧n=nd 3∨(l.getD at_ c6).kind=7∧n=nd 4):dF l at_ [n] (at_+1):=by
  refine ⟨by omega,by omega,?_⟩
  rw [hg.next h]
  rcases hk with ⟨hk,rfl⟩|⟨hk,rfl⟩|⟨hk,rfl⟩<;>simp only [hk]<;>simp [eX]
theorem rj {l:List Tk} {at_ nx:Nat} {x:List Nd} (h:rY l at_ x nx) (hr:(dE l at_).fh=false) (ht:iU (dE l at_).st=fx):(dE l nx).st.length=(dE l at_).st.length:=by
  obtain ⟨c,e⟩:=h.2.2.2 hr ht
  have:=congrArg (fun p=>p.st.length) e
  simpa [gO,mv] using this
theorem dF.group {l:List Tk} (hg:dG l) {at_ nx:Nat} {x:List Nd} (h:at_<l.length) (hk:(l.getD at_ c6).kind=3) (he:rY l (at_+1) x nx):nx<l.length∧dF l at_ x (nx+1):=by
  have hs:dE l (at_+1)=kj (dE l at_):=by rw [hg.next h];simp only [hk];simp
  have hr:(dE l (at_+1)).fh=false:=by rw [hs];rfl
  have ht:iU (dE l (at_+1)).st=fx:=by rw [hs];exact uW _ _
  have hlen:=rj he hr ht
  have hp:=gX l at_
  have hn:nx<l.length:=by
    refine Classical.byContradiction fun h9=>?_
    have e:nx=l.length:=by have:=he.2.1;omega
    rw [e,hg.2,hs] at hlen
    simp only [kj,List.length_append,di,List.length_singleton] at hlen;omega
  refine ⟨hn,by have:=he.1;omega,by omega,?_⟩
  obtain ⟨c,e⟩:=he.2.2.2 hr ht
  have hk4:=he.2.2.1 hn
  rw [hg.next hn]
  simp only [hk4]
  simp only [show¬(4:Int)=1 by decide,show¬(4:Int)=6 by decide,show¬(4:Int)=7 by decide,show¬(4:Int)=2 by decide,show¬(4:Int)=5 by decide,show¬(4:Int)=3 by decide,if_false]
  unfold iN
  rw [e,hs]
  simp [kj,p9]
theorem dF.rep {l:List Tk} (hg:dG l) {at_ i:Nat} {x:List Nd} (h:dF l at_ x i) (hi:i<l.length) (hk:(l.getD i c6).kind=5):dF l at_ (x++[⟨7,Bs.zero,(l.getD i c6).lo,(l.getD i c6).hi⟩]) (i+1):=by
  refine ⟨by have:=h.1;omega,by omega,?_⟩
  rw [hg.next hi];simp only [hk]
  simp only [show¬(5:Int)=1 by decide,show¬(5:Int)=6 by decide,show¬(5:Int)=7 by decide,show¬(5:Int)=2 by decide,if_false,if_true]
  rw [h.2.2];simp
theorem rY.all {l:List Tk} (hg:dG l) {x:List Nd} {nx:Nat} (h:rY l 0 x nx):nx=l.length∧(bD (dE l l.length)).out=x:=by
  have hlen:=rj h rfl rfl
  have hn:nx=l.length:=by
    refine Classical.byContradiction fun h9=>?_
    have hn:nx<l.length:=by have:=h.2.1;omega
    have h4:=h.2.2.1 hn
    have he:=hg.1 nx hn
    rw [cZ h4,hlen] at he
    simp [ke,LI] at he
  subst hn
  obtain ⟨c,e⟩:=h.2.2.2 rfl rfl
  exact ⟨rfl,by rw [e];simp [ke,LI]⟩
theorem dk {p:Prop} (h:p:=by decide):p:=h
def rN (n:Int):Int:=min n 1048576
def dT (n:Nd) (x:Int):Int:=if n.hi<0 then 3+(n.lo+1)*x else 2+n.hi*x+n.hi-n.lo
def aU:Tr→Int
  | .leaf _=>2
  | .rep n a=>rN (dT n (aU a))
  | .bin n a b=>rN (if n.kind=5 then aU a+aU b else aU a+aU b+2)
def fM (T:Tr):Prop:=∀n,n∈T.flat→cW n=true
theorem fM.rep {n:Nd} {a:Tr} (h:fM (.rep n a)):fM a:=fun x hx=>h x (by simp [Tr.flat,hx])
theorem fM.kO {n:Nd} {a b:Tr} (h:fM (.bin n a b)):fM a:=fun x hx=>h x (by simp [Tr.flat,hx])
theorem fM.kN {n:Nd} {a b:Tr} (h:fM (.bin n a b)):fM b:=fun x hx=>h x (by simp [Tr.flat,hx])
theorem fM.root {T:Tr} (h:fM T):cW T.root=true:=h _ (by rw [dP];simp)
theorem cW.rep {n:Nd} (h:cW n=true) (hk:n.kind=7):0≤n.lo∧n.lo≤32∧(n.hi= -1∨n.lo≤n.hi∧n.hi≤32):=by
  unfold cW at h;rw [decide_eq_true_eq,if_pos hk] at h;exact h.2
theorem cW.set {n:Nd} (h:cW n=true) (hk:¬n.kind=1):n.set=Bs.zero:=by
  unfold cW at h;rw [decide_eq_true_eq] at h;exact h.1.resolve_left hk
theorem zH {n:Nd} {x:Int} (h:0≤n.lo∧n.lo≤32∧(n.hi= -1∨n.lo≤n.hi∧n.hi≤32)) (hx:0≤x∧x≤1048576):2≤dT n x∧dT n x≤40000000∧0≤n.lo*x∧n.lo*x≤33554432∧(0≤n.hi→0≤n.hi*x∧n.hi*x≤33554432∧n.lo*x≤n.hi*x)∧(n.lo+1)*x≤34603008∧0≤(n.lo+1)*x:=by
  obtain ⟨h1,h2,h3⟩:=h
  have a1:0≤n.lo*x:=Int.mul_nonneg h1 hx.1
  have a2:n.lo*x≤32*1048576:=Int.mul_le_mul h2 hx.2 hx.1 dk
  have a3:(n.lo+1)*x=n.lo*x+x:=by rw [Int.add_mul,Int.one_mul]
  unfold dT
  rcases h3 with h3|⟨h3,h4⟩
  · rw [if_pos oz]
    exact ⟨by omega,by omega,a1,by omega,fun h9=>by omega,by omega,by omega⟩
  · have a4:0≤n.hi*x:=Int.mul_nonneg oz hx.1
    have a5:n.hi*x≤32*1048576:=Int.mul_le_mul h4 hx.2 hx.1 dk
    have a6:n.lo*x≤n.hi*x:=Int.mul_le_mul_of_nonneg_right h3 hx.1
    rw [if_neg oz]
    exact ⟨by omega,by omega,a1,by omega,fun _=>⟨a4,by omega,a6⟩,by omega,by omega⟩
theorem dx:∀(T:Tr),T.wk→fM T→2≤aU T∧aU T≤1048576
  | .leaf n,_,_=>by simp [aU]
  | .rep n a,h,ho=>by
    have ih:=dx a h.2 ho.rep
    have hb:=zH (n:=n) (x:=aU a) (cW.rep (n:=n) ho.root h.1) ⟨by omega,ih.2⟩
    have h1:=hb.1
    have h2:=hb.2.1
    simp only [aU,rN];omega
  | .bin n a b,h,ho=>by
    have i1:=dx a h.2.1 ho.kO
    have i2:=dx b h.2.2 ho.kN
    simp only [aU,rN];split<;>omega
def fu (n:Nd):Nd:=if n.kind=3 then { n with kind:=4 } else if n.kind=4 then { n with kind:=3 } else n
def bN:Tr→Tr
  | .leaf n=> .leaf (fu n)
  | .rep n a=> .rep n (bN a)
  | .bin n a b=>if n.kind=5 then .bin n (bN b) (bN a) else .bin n (bN a) (bN b)
theorem oM:∀T:Tr,T.wk→(bN T).wk
  | .leaf n,h=>by
    simp only [bN,Tr.wk,fu] at h ⊢
    split
    · simp
    · split
      · simp
      · exact h
  | .rep n a,h=>⟨h.1,oM a h.2⟩
  | .bin n a b,h=>by
    simp only [bN];split
    · exact ⟨h.1,oM b h.2.2,oM a h.2.1⟩
    · exact ⟨h.1,oM a h.2.1,oM b h.2.2⟩
theorem j9:∀T:Tr,(bN T).flat.length=T.flat.length
  | .leaf n=>rfl
  | .rep n a=>by simp [bN,Tr.flat,j9 a]
  | .bin n a b=>by
    have:=j9 a;have:=j9 b
    simp only [bN];split<;>simp [Tr.flat]<;>omega
structure aR where
  kind:Int
  a:Int
  b:Int
  set:Bs
deriving DecidableEq
def ay:aR:=⟨0,0,0,Bs.zero⟩
structure Pt where
  s:List aR
  first:Nat
  last:Nat
def dy (s:List aR) (i:Nat) (v:Int):List aR:=s.set i { s.getD i ay with a:=v }
def qP (s:List aR) (i:Nat) (v:Int):List aR:=s.set i { s.getD i ay with b:=v }
def emp:aR:=⟨2,0,0,Bs.zero⟩
def jL (n:Nd) (to:Int):aR:=⟨if n.kind=3 then 4 else if n.kind=4 then 5 else n.kind,to,0,n.set⟩
def eW (f:List aR→Pt):Nat→List aR×Nat→List aR×Nat
  | 0,x=>x
  | k+1,x=>let r:=eW f k x;let y:=f r.1;(dy y.s r.2 y.first,y.last)
def cY (f:List aR→Pt):Nat→List aR×Nat→List aR×Nat×List Nat
  | 0,x=>(x.1,x.2,[])
  | k+1,x=>let r:=cY f k x;let y:=f r.1;(dy (y.s++[⟨3,y.first,0,Bs.zero⟩]) r.2.1 y.s.length,y.last,r.2.2++[y.s.length])
def fK (s:List aR) (l:List Nat) (v:Int):List aR:=l.foldl (fun s i=>qP s i v) s
def jE (f:List aR→Pt) (n:Nd) (s:List aR):Pt:=
  let x:=eW f n.lo.toNat (s++[emp],s.length)
  if n.hi<0 then
    let r:=cY f 1 x
    let u:=r.1++[emp]
    ⟨fK (dy u r.2.1 (r.2.2.getD 0 0:Nat)) r.2.2 r.1.length,s.length,r.1.length⟩
  else
    let r:=cY f (n.hi-n.lo).toNat x
    let u:=r.1++[emp]
    ⟨fK (dy u r.2.1 r.1.length) r.2.2 r.1.length,s.length,r.1.length⟩
def aW:Tr→List aR→Pt
  | .leaf n,s=>⟨s++[jL n (s.length+1),emp],s.length,s.length+1⟩
  | .rep n a,s=>jE (aW a) n s
  | .bin n a b,s=>
    let x:=aW a s
    let y:=aW b x.s
    if n.kind=5 then ⟨dy y.s x.last y.first,x.first,y.last⟩
    else ⟨dy (dy (y.s++[⟨3,x.first,y.first,Bs.zero⟩,emp]) x.last (y.s.length+1)) y.last (y.s.length+1),y.s.length,y.s.length+1⟩
theorem cK (s:List aR) (i:Nat) (v:Int):(dy s i v).length=s.length:=by simp [dy]
theorem BK (s:List aR) (i:Nat) (v:Int):(qP s i v).length=s.length:=by simp [qP]
theorem oQ:∀(l:List Nat) (s:List aR) (v:Int),(fK s l v).length=s.length
  | [],s,v=>rfl
  | i::l,s,v=>by simp only [fK,List.foldl_cons];exact (oQ l _ v).trans (BK s i v)
theorem bo (s:List aR) (i:Nat) (v:Int) (j:Nat):(dy s i v).getD j ay=if j=i∧i<s.length then { s.getD i ay with a:=v } else s.getD j ay:=by
  unfold dy
  simp only [List.getD_eq_getElem?_getD,List.getElem?_set]
  by_cases h:i=j
  · subst h
    by_cases h2:i<s.length
    · simp [h2]
    · simp [h2]
  · rw [if_neg h,if_neg (fun h9=>h h9.1.symm)]
theorem qO (s:List aR) (i:Nat) (v:Int) (j:Nat):(qP s i v).getD j ay=if j=i∧i<s.length then { s.getD i ay with b:=v } else s.getD j ay:=by
  unfold qP
  simp only [List.getD_eq_getElem?_getD,List.getElem?_set]
  by_cases h:i=j
  · subst h
    by_cases h2:i<s.length
    · simp [h2]
    · simp [h2]
  · rw [if_neg h,if_neg (fun h9=>h h9.1.symm)]
def bA:Tr→Nat
  | .leaf _=>2
  | .rep n a=>2+n.lo.toNat*bA a+(if n.hi<0 then bA a+1 else (n.hi-n.lo).toNat*(bA a+1))
  | .bin n a b=>if n.kind=5 then bA a+bA b else bA a+bA b+2
def Mk (f:List aR→Pt) (z:Nat):Prop:=∀s,(f s).s.length=s.length+z∧s.length≤(f s).first∧(f s).first<s.length+z∧s.length≤(f s).last∧(f s).last<s.length+z∧∀j,j<s.length→(f s).s.getD j ay=s.getD j ay
theorem o4 {f:List aR→Pt} {z:Nat} (hf:Mk f z) (x:List aR×Nat):∀k,(eW f k x).1.length=x.1.length+k*z
  | 0=>by simp [eW]
  | k+1=>by simp only [eW];rw [cK,(hf _).1,o4 hf x k,Nat.succ_mul];omega
theorem kV {f:List aR→Pt} {z:Nat} (hf:Mk f z) (x:List aR×Nat):∀k,(cY f k x).1.length=x.1.length+k*(z+1)
  | 0=>by simp [cY]
  | k+1=>by simp only [cY];rw [cK,List.length_append,(hf _).1,kV hf x k,Nat.succ_mul];simp;omega
theorem bM {α:Type} {d:α} {a b:List α} {j:Nat} (h:j<a.length):(a++b).getD j d=a.getD j d:=by
  rw [List.getD_eq_getElem?_getD,List.getElem?_append_left h,←List.getD_eq_getElem?_getD]
theorem mG {f:List aR→Pt} {z:Nat} (hf:Mk f z) {x:List aR×Nat} {n:Nat} (hn:n≤x.2) (hx:x.2<x.1.length):∀k,n≤(eW f k x).2∧(eW f k x).2<(eW f k x).1.length∧∀j,j<n→(eW f k x).1.getD j ay=x.1.getD j ay
  | 0=>⟨hn,hx,fun _ _=>rfl⟩
  | k+1=>by
    obtain ⟨h1,h2,h3⟩:=mG hf hn hx k
    have:=hf (eW f k x).1
    simp only [eW,cK]
    refine ⟨by omega,by omega,fun j hj=>?_⟩
    rw [bo,if_neg oz,this.2.2.2.2.2 j oz];exact h3 j hj
theorem mM {f:List aR→Pt} {z:Nat} (hf:Mk f z) {x:List aR×Nat} {n:Nat} (hn:n≤x.2) (hx:x.2<x.1.length):∀k,n≤(cY f k x).2.1∧(cY f k x).2.1<(cY f k x).1.length∧(∀i,i∈(cY f k x).2.2→n≤i∧i<(cY f k x).1.length)∧(cY f k x).2.2.length=k∧∀j,j<n→(cY f k x).1.getD j ay=x.1.getD j ay
  | 0=>⟨hn,hx,by simp [cY],rfl,fun _ _=>rfl⟩
  | k+1=>by
    obtain ⟨h1,h2,h4,h5,h3⟩:=mM hf hn hx k
    have:=hf (cY f k x).1
    simp only [cY,cK,List.length_append,List.length_singleton]
    refine ⟨by omega,by omega,fun i hi=>?_,by rw [h5],fun j hj=>?_⟩
    · simp only [List.mem_append,List.mem_singleton] at hi
      rcases hi with hi|rfl
      · have:=h4 i hi;omega
      · omega
    · rw [bo,if_neg oz,bM oz,this.2.2.2.2.2 j oz];exact h3 j hj
theorem fg:∀(l:List Nat) (s:List aR) (v:Int) (j:Nat),j∉l→(fK s l v).getD j ay=s.getD j ay
  | [],s,v,j,_=>rfl
  | i::l,s,v,j,h=>by
    simp only [fK,List.foldl_cons]
    refine (fg l _ v j (fun h9=>h (List.mem_cons_of_mem _ h9))).trans ?_
    rw [qO,if_neg (fun h9=>h (by rw [h9.1];exact List.mem_cons_self))]
theorem GS {f:List aR→Pt} {z:Nat} (hf:Mk f z) (n:Nd):Mk (jE f n) (2+n.lo.toNat*z+(if n.hi<0 then z+1 else (n.hi-n.lo).toNat*(z+1))):=by
  intro s
  have a1:=o4 hf (s++[emp],s.length) n.lo.toNat
  have a2:=mG hf (x:=(s++[emp],s.length)) (n:=s.length) (Nat.le_refl _) (by simp) n.lo.toNat
  unfold jE
  simp only [List.length_append,List.length_singleton] at a1
  by_cases hh:n.hi<0
  · rw [if_pos hh,if_pos hh]
    have b1:=kV hf (eW f n.lo.toNat (s++[emp],s.length)) 1
    have b2:=mM hf (x:=eW f n.lo.toNat (s++[emp],s.length)) (n:=s.length) a2.1 a2.2.1 1
    simp only [oQ,cK,List.length_append,List.length_singleton]
    refine ⟨by omega,by omega,by omega,by omega,by omega,fun j hj=>?_⟩
    rw [fg _ _ _ _ (fun h9=>by have:=b2.2.2.1 j h9;omega),bo,if_neg oz,bM oz,b2.2.2.2.2 j hj,a2.2.2 j hj,bM hj]
  · rw [if_neg hh,if_neg hh]
    have b1:=kV hf (eW f n.lo.toNat (s++[emp],s.length)) (n.hi-n.lo).toNat
    have b2:=mM hf (x:=eW f n.lo.toNat (s++[emp],s.length)) (n:=s.length) a2.1 a2.2.1 (n.hi-n.lo).toNat
    simp only [oQ,cK,List.length_append,List.length_singleton]
    refine ⟨by omega,by omega,by omega,by omega,by omega,fun j hj=>?_⟩
    rw [fg _ _ _ _ (fun h9=>by have:=b2.2.2.1 j h9;omega),bo,if_neg oz,bM oz,b2.2.2.2.2 j hj,a2.2.2 j hj,bM hj]
theorem gb:∀T:Tr,Mk (aW T) (bA T)
  | .leaf n=>fun s=>by
    simp only [aW,bA,List.length_append,List.length_cons,List.length_nil]
    exact ⟨trivial,by omega,by omega,by omega,by omega,fun j hj=>bM hj⟩
  | .rep n a=>GS (gb a) n
  | .bin n a b=>fun s=>by
    have h1:=gb a s
    have h2:=gb b (aW a s).s
    simp only [aW,bA]
    by_cases hk:n.kind=5
    · rw [if_pos hk,if_pos hk]
      simp only [cK]
      refine ⟨by omega,by omega,by omega,by omega,by omega,fun j hj=>?_⟩
      rw [bo,if_neg oz,h2.2.2.2.2.2 j oz,h1.2.2.2.2.2 j hj]
    · rw [if_neg hk,if_neg hk]
      simp only [cK,List.length_append,List.length_cons,List.length_nil]
      refine ⟨by omega,by omega,by omega,by omega,by omega,fun j hj=>?_⟩
      rw [bo,if_neg oz,bo,if_neg oz,bM oz,h2.2.2.2.2.2 j oz,h1.2.2.2.2.2 j hj]
theorem size_eq:∀T:Tr,T.wk→fM T→aU T<1048576→(bA T:Int)=aU T
  | .leaf n,_,_,_=>rfl
  | .rep n a,h,ho,hs=>by
    have hr:=cW.rep (n:=n) ho.root h.1
    have ia:=dx a h.2 ho.rep
    obtain ⟨JR,xm,P4,hb4,hb5,hb6,hb7⟩:=zH (x:=aU a) hr ⟨by omega,ia.2⟩
    simp only [aU,rN] at hs ⊢
    have VC:dT n (aU a)<1048576:=by omega
    rw [Int.min_eq_left oz]
    have JJ:dT n (aU a)=if n.hi<0 then 3+(n.lo+1)*aU a else 2+n.hi*aU a+n.hi-n.lo:=rfl
    by_cases hz:aU a<1048576
    · have ih:=size_eq a h.2 ho.rep hz
      simp only [bA]
      have e1:((n.lo.toNat*bA a:Nat):Int)=n.lo*aU a:=by rw [Int.natCast_mul,ih];congr 1;omega
      have e3:(n.lo+1)*aU a=n.lo*aU a+aU a:=by rw [Int.add_mul,Int.one_mul]
      by_cases hh:n.hi<0
      · rw [JJ,if_pos hh,if_pos hh];omega
      · rw [JJ,if_neg hh,if_neg hh]
        have e2:(((n.hi-n.lo).toNat*(bA a+1):Nat):Int)=n.hi*aU a-n.lo*aU a+(n.hi-n.lo):=by
          rw [Int.natCast_mul,Int.natCast_add,ih,show (((n.hi-n.lo).toNat:Nat):Int)=n.hi-n.lo by omega,Int.mul_add,Int.sub_mul];simp
        omega
    · have e:aU a=1048576:=by omega
      rw [JJ,e] at VC
      rw [JJ,e]
      simp only [bA]
      by_cases hh:n.hi<0
      · rw [if_pos hh] at VC;omega
      · rw [if_neg hh] at VC
        have h0:n.hi=0:=by omega
        have h1:n.lo=0:=by omega
        rw [if_neg hh,if_neg hh,h0,h1];simp
  | .bin n a b,h,ho,hs=>by
    have ia:=dx a h.2.1 ho.kO
    have ib:=dx b h.2.2 ho.kN
    simp only [aU,rN] at hs ⊢
    simp only [bA]
    by_cases hk:n.kind=5
    · rw [if_pos hk] at hs ⊢;rw [if_pos hk,Int.min_eq_left oz]
      have:=size_eq a h.2.1 ho.kO oz;have:=size_eq b h.2.2 ho.kN oz
      omega
    · rw [if_neg hk] at hs ⊢;rw [if_neg hk,Int.min_eq_left oz]
      have:=size_eq a h.2.1 ho.kO oz;have:=size_eq b h.2.2 ho.kN oz
      omega
end Go.Sx
