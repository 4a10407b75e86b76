/-
  Texts that the law leans on: SmA, SmB, SmC. Conditions: as each says.
-/
import Derived.Test.YtflmjbmdmoifhaaGreatDoorUAc
import Derived.StillTailTactics
import Derived.BigQuiet
import Derived.BigRegion
import Derived.Deep.DeepCutAuto
import Derived.Test.YtflmjbmdmoifhaaGreatDoorShelf
import Derived.Test.YtflmjbmdmoifhaaGreatDoorUAa
set_option linter.unusedSimpArgs false
set_option linter.unusedVariables false
namespace Go.Proofs.YtflmjbmdmoifhaaGreatDoor
open Go.Lib (hid)
open Go.RowKit
structure Fr (w w':World) (F:Nat→Prop):Prop where
 os:w'.os=w.os
 tape:w'.tape=w.tape
 output:w'.output=w.output
 size:w.heap.size≤w'.heap.size
 block:∀i,i<w.heap.size→¬F i→w'.heap[i]? =w.heap[i]?
section
variable {a w w1 : World} {F G : Nat → Prop}
theorem Fr.refl (w:World) (F:Nat→Prop):Fr w w F:=⟨rfl,rfl,rfl,Nat.le_refl _,fun _ _ _=>rfl⟩
theorem Fr.trans (h:Fr a w F) (k:Fr w w1 F):Fr a w1 F:=⟨k.os.trans h.os,k.tape.trans h.tape,k.output.trans h.output,Nat.le_trans h.size k.size,fun i hi hn=>(k.block i (Nat.lt_of_lt_of_le hi h.size) hn).trans (h.block i hi hn)⟩
theorem Fr.step (h:Fr a w F) (k:Fr w w1 G) (hg:∀i,i<a.heap.size→G i→F i):Fr a w1 F:=⟨k.os.trans h.os,k.tape.trans h.tape,k.output.trans h.output,Nat.le_trans h.size k.size,fun i hi hn=>(k.block i (Nat.lt_of_lt_of_le hi h.size) (fun e=>hn (hg i hi e))).trans (h.block i hi hn)⟩
theorem Fr.mono (h:Fr w w1 F) (hg:∀i,i<w.heap.size→F i→G i):Fr w w1 G:=(Fr.refl w G).step h hg
theorem Fr.below (h:Below w.heap.size w w1) (F:Nat→Prop):Fr w w1 F:=⟨h.os,h.tape,h.output,h.size,fun i hi _=>h.block i hi⟩
theorem Fr.upd {b:Nat} (h:Upd w w1 b):Fr w w1 (fun i=>i=b):=⟨h.os,h.tape,h.output,h.size,fun i hi hn=>h.block i hi (fun e=>hn (by injection e))⟩
theorem Fr.grown {row:Option Nat} (h:w.grownBy w1 row):Fr w w1 (fun i=>row=some i):=⟨h.os,h.tape,h.output,h.size,fun i hi hn=>h.block i hi (fun e=>hn e.symm)⟩
theorem Fr.out (h:Fr w w1 F) {B:Nat} (hF:∀i,i<B→¬F i) (hB:B≤w.heap.size):Below B w w1:=⟨h.os,h.tape,h.output,h.size,fun i hi=>h.block i (by omega) (hF i hi)⟩
theorem Fr.box {b:Nat} {t:TypeId} {cs:Array Value} (h:Fr w w1 F) (hb:Box w b t cs) (hn:¬F b):Box w1 b t cs:=(h.block b hb.lt hn).trans hb
theorem Fr.own {base:Nat} {e:TypeId} {k n:Nat} {v:Value} {xs:List Value} (h:Fr w w1 F) (ho:w.ownsRow base e k v n xs) (hn:∀g,v.ownBlock=some g→¬F g):w1.ownsRow base e k v n xs:=by
 refine⟨ho.1,?_⟩
 rcases ho.2 with h0 | ⟨g,cap,cur,e1,h1,h2,h3⟩
 ·exact .inl h0
 ·subst e1
  have hg:g<w.heap.size:=(Array.getElem?_eq_some_iff.1 h2).1
  exact .inr ⟨g,cap,cur,rfl,h1,(h.block g hg (hn g rfl)).trans h2,h3⟩
theorem Fr.mapf {α:Type} {r:Rdr α} {b n:Nat} {f:List UInt8→Option α} (h:Fr w w1 F) (hm:MapF r w b n f) (hn:¬F b):MapF r w1 b n f:=hm.block (h.block b hm.lt hn)
end
def intR (v:Value):Option (DataW Unit×List MemPlace):=match v with
 | .int .i64 z=>some (.lit (.int .i64 z),[])
 | _=>none
theorem intR_inv (v:Value) (x:Int) (ps:List MemPlace) (h:intR v=some (.lit (.int .i64 x),ps)):v= .int .i64 x:=by
 unfold intR at h
 split at h
 ·simp only[Option.some.injEq,Prod.mk.injEq,DataW.lit.injEq,Lit.int.injEq] at h
  obtain⟨⟨_,rfl⟩,_⟩:=h
  rfl
 ·cases h
def natRdr:Rdr Nat:=⟨fun z=> .int .i64 (z:Int),intR,fun z=> .lit (.int .i64 (z:Int)),fun z=>rfl,fun v x ps h=>intR_inv v x ps h⟩
theorem zero_nat (w:World):(zeroValue 3).run Tryz.prog w= .ok (natRdr.val 0) w:=by
 simp[go_sem,Tryz.zeroValue3,natRdr]
def dc (d:Scopy.Decl):Array Value:= #[.int .i64 d.kind,.string (byt d.name),.int .i64 (d.deep:Int),.bool d.caught]
def uc (u:List UInt8×Int):Array Value:= #[.string (byt u.1),.int .i64 u.2]
theorem dc_size (d:Scopy.Decl):(dc d).size=4:=rfl
theorem uc_size (u:List UInt8×Int):(uc u).size=2:=rfl
theorem dc_one (d:Scopy.Decl):(dc d).all (·.oneCell')=true:=by simp[dc,Value.oneCell']
theorem uc_one (u:List UInt8×Int):(uc u).all (·.oneCell')=true:=by simp[uc,Value.oneCell']
def lkc (kv dv uv:Value) (e:Nat) (dk:Int) (nm:List UInt8):Array Value:= #[kv,dv,uv,.int .i64 (e:Int),.int .i64 dk,.string (byt nm)]
def rmc (mb deep:Nat) (out:Value):Array Value:= #[.map (some mb),.int .i64 (deep:Int),out]
abbrev at_ (b o:Nat):Value:= .pointer (some ⟨b,o,none⟩)
structure Lk (w:World) (l B:Nat) (kv:Value) (dk:Int) (nm:List UInt8) (LS:Nat→Prop) (s:Scopy.St) (dv uv:Value):Prop where
 box:Box w l 53 (lkc kv dv uv s.e dk nm)
 decls:w.ownsRow B 36 4 dv s.decls.length (flat dc s.decls)
 uses:w.ownsRow B 39 2 uv s.uses.length (flat uc s.uses)
 ap:Apart dv uv
 lB:l<B
 lS:LS l
 dS:∀g,dv.ownBlock=some g→LS g
 uS:∀g,uv.ownBlock=some g→LS g
 lt:∀g,LS g→g<w.heap.size
def Grow (LS:Nat→Prop) (w w':World):Nat→Prop:=fun g=>g<w'.heap.size∧(LS g∨w.heap.size≤g)
theorem Lk.fr {w w1:World} {l B:Nat} {kv:Value} {dk:Int} {nm:List UInt8} {LS:Nat→Prop} {s:Scopy.St} {dv uv:Value} {F:Nat→Prop} (h:Lk w l B kv dk nm LS s dv uv) (hf:Fr w w1 F) (hn:∀g,LS g→¬F g):Lk w1 l B kv dk nm LS s dv uv:=
 ⟨hf.box h.box (hn l h.lS),hf.own h.decls fun g e=>hn g (h.dS g e),hf.own h.uses fun g e=>hn g (h.uS g e),h.ap,h.lB,h.lS,h.dS,h.uS,fun g hg=>by have:=h.lt g hg;have:=hf.size;omega⟩
theorem Lk.state {w:World} {l B:Nat} {kv:Value} {dk:Int} {nm:List UInt8} {LS:Nat→Prop} {s s':Scopy.St} {dv uv:Value} (h:Lk w l B kv dk nm LS s dv uv) (h1:s'.decls=s.decls) (h2:s'.uses=s.uses) (h3:s'.e=s.e):Lk w l B kv dk nm LS s' dv uv:=
 ⟨by rw[h3];exact h.box,by rw[h1];exact h.decls,by rw[h2];exact h.uses,h.ap,h.lB,h.lS,h.dS,h.uS,h.lt⟩
theorem Lk.sets {w:World} {l B:Nat} {kv:Value} {dk:Int} {nm:List UInt8} {LS LS':Nat→Prop} {s:Scopy.St} {dv uv:Value} (h:Lk w l B kv dk nm LS s dv uv) (h1:∀g,LS g→LS' g) (h2:∀g,LS' g→g<w.heap.size):Lk w l B kv dk nm LS' s dv uv:=
 ⟨h.box,h.decls,h.uses,h.ap,h.lB,h1 l h.lS,fun g e=>h1 g (h.dS g e),fun g e=>h1 g (h.uS g e),h2⟩
theorem Fr.set (w:World) (p:Addr) (u:Value):Fr w (w.setCell p u) (fun i=>i=p.block):=⟨rfl,rfl,rfl,by simp[World.setCell],fun i hi hn=>Below.heap_setCell w p u i hn⟩
theorem Fr.drewN (w:World) (n:Nat) (F:Nat→Prop):Fr w (w.drewN n) F:=⟨rfl,rfl,rfl,Nat.le_refl _,fun _ _ _=>rfl⟩
theorem Lk.far {w:World} {l B:Nat} {kv:Value} {dk:Int} {nm:List UInt8} {LS:Nat→Prop} {s:Scopy.St} {dv uv:Value} (h:Lk w l B kv dk nm LS s dv uv) (p:Addr) (u:Value) (hp:¬LS p.block):Lk (w.setCell p u) l B kv dk nm LS s dv uv:=
 h.fr (Fr.set w p u) fun g hg e=>hp (e ▸ hg)
theorem Lk.wrong {w:World} {l B:Nat} {kv:Value} {dk:Int} {nm:List UInt8} {LS:Nat→Prop} {s:Scopy.St} {dv uv:Value} (h:Lk w l B kv dk nm LS s dv uv) (e:Nat):Lk (w.setCell ⟨l,3,none⟩ (.int .i64 (e:Int))) l B kv dk nm LS {s with e:=e} dv uv:=by
 have hf:=Fr.set w ⟨l,3,none⟩ (.int .i64 (e:Int))
 refine⟨?_,hf.own h.decls fun g hg e2=> ?_,hf.own h.uses fun g hg e2=> ?_,h.ap,h.lB,h.lS,h.dS,h.uS,fun g hg=>by have:=h.lt g hg;have:=hf.size;omega⟩
 ·have:=h.box.set 3 (.int .i64 (e:Int))
  simpa [lkc] using this
 ·have:=(h.decls.lt g hg).1
  have e2:g=l:=e2
  have:=h.lB
  omega
 ·have:=(h.uses.lt g hg).1
  have e2:g=l:=e2
  have:=h.lB
  omega
theorem Fr.alloc (w:World) (o:Obj) (F:Nat→Prop):Fr w (w.alloc o).drew F:=⟨rfl,rfl,rfl,by show w.heap.size≤(w.alloc o).heap.size;simp,fun i hi _=>Below.heap_alloc w o i hi⟩
theorem Lk.app_decl {w w8:World} {l B:Nat} {kv:Value} {dk:Int} {nm:List UInt8} {LS:Nat→Prop} {s:Scopy.St} {dv uv:Value} {o:Obj} {g8 cap8 n:Nat} (h:Lk w l B kv dk nm LS s dv uv) (d:Scopy.Decl) (hn:s.decls.length=n) (hB:B≤w.heap.size)
  (hown:w8.ownsRow B 36 4 (.slice (some ⟨g8,0,none⟩) (n+1) cap8) (n+1) (flat dc s.decls++(dc d).toList)) (hgr:(w.alloc o).drew.grownBy w8 dv.ownBlock) (hor:dv.ownBlock=some g8∨g8=w.heap.size+1) (hlt:g8<w8.heap.size):
  ∃dv',Lk (w8.setCell ⟨l,1,none⟩ (.slice (some ⟨g8,0,none⟩) (n+1) cap8)) l B kv dk nm (Grow LS w (w8.setCell ⟨l,1,none⟩ (.slice (some ⟨g8,0,none⟩) (n+1) cap8))) {s with decls:=s.decls++[d]} dv' uv∧Fr w (w8.setCell ⟨l,1,none⟩ (.slice (some ⟨g8,0,none⟩) (n+1) cap8)) LS:=by
 subst hn
 have hr:=Fr.grown hgr
 have hd:∀q,dv.ownBlock=some q→B≤q∧q<w.heap.size:=h.decls.lt
 have hlB:=h.lB
 have h1:=Fr.alloc w o (fun _=>False)
 have f8:Fr w w8 (fun i=>dv.ownBlock=some i):=(h1.mono fun i _ e=>e.elim).trans ((hr.mono fun i _ e=>e))
 have fs:=Fr.set w8 ⟨l,1,none⟩ (.slice (some ⟨g8,0,none⟩) (s.decls.length+1) cap8)
 have hz:(w8.setCell ⟨l,1,none⟩ (.slice (some ⟨g8,0,none⟩) (s.decls.length+1) cap8)).heap.size=w8.heap.size:=by simp[World.setCell]
 have b8:=f8.box h.box (fun e=>by have:=hd l e;omega)
 have hgl:g8≠l:=by
  rintro rfl
  rcases hor with e | e
  ·have:=hd _ e;omega
  ·have:=h.lt _ h.lS;omega
 have hLS:∀g,LS g→Grow LS w (w8.setCell ⟨l,1,none⟩ (.slice (some ⟨g8,0,none⟩) (s.decls.length+1) cap8)) g:=fun g hg=>⟨by rw[hz];have:=h.lt g hg;have:=f8.size;omega,.inl hg⟩
 refine⟨.slice (some ⟨g8,0,none⟩) (s.decls.length+1) cap8,⟨?_,?_,?_,?_,h.lB,hLS l h.lS,?_,fun g hg=>hLS g (h.uS g hg),fun g hg=>hg.1⟩,(f8.mono fun i _ e=>h.dS i e).trans (fs.mono fun i _ e=>by rw[show i=l from e];exact h.lS)⟩
 ·have:=b8.set 1 (.slice (some ⟨g8,0,none⟩) (s.decls.length+1) cap8)
  simpa [lkc] using this
 ·have:=fs.own hown (fun g e=>by simp only[Value.ownBlock] at e;injection e with e;subst e;exact hgl)
  rw[List.length_append,flat_append]
  simpa [flat] using this
 ·exact fs.own (f8.own h.uses fun g e e2=>h.ap g e2 e) (fun g e=>by have:=(h.uses.lt g e).1;show ¬g=l;omega)
 ·intro g e
  simp only[Value.ownBlock] at e
  injection e with e
  subst e
  rcases hor with e | e
  ·exact h.ap _ e
  ·intro e2;have:=(h.uses.lt _ e2).2;omega
 ·intro g e
  simp only[Value.ownBlock] at e
  injection e with e
  subst e
  refine⟨by rw[hz];exact hlt,?_⟩
  rcases hor with e | e
  ·exact .inl (h.dS _ e)
  ·right;omega
theorem Lk.app_use {w w8:World} {l B:Nat} {kv:Value} {dk:Int} {nm:List UInt8} {LS:Nat→Prop} {s:Scopy.St} {dv uv:Value} {o:Obj} {g8 cap8 n:Nat} (h:Lk w l B kv dk nm LS s dv uv) (d:List UInt8×Int) (hn:s.uses.length=n) (hB:B≤w.heap.size)
  (hown:w8.ownsRow B 39 2 (.slice (some ⟨g8,0,none⟩) (n+1) cap8) (n+1) (flat uc s.uses++(uc d).toList)) (hgr:(w.alloc o).drew.grownBy w8 uv.ownBlock) (hor:uv.ownBlock=some g8∨g8=w.heap.size+1) (hlt:g8<w8.heap.size):
  ∃uv',Lk (w8.setCell ⟨l,2,none⟩ (.slice (some ⟨g8,0,none⟩) (n+1) cap8)) l B kv dk nm (Grow LS w (w8.setCell ⟨l,2,none⟩ (.slice (some ⟨g8,0,none⟩) (n+1) cap8))) {s with uses:=s.uses++[d]} dv uv'∧Fr w (w8.setCell ⟨l,2,none⟩ (.slice (some ⟨g8,0,none⟩) (n+1) cap8)) LS:=by
 subst hn
 have hr:=Fr.grown hgr
 have hd:∀q,uv.ownBlock=some q→B≤q∧q<w.heap.size:=h.uses.lt
 have hlB:=h.lB
 have h1:=Fr.alloc w o (fun _=>False)
 have f8:Fr w w8 (fun i=>uv.ownBlock=some i):=(h1.mono fun i _ e=>e.elim).trans ((hr.mono fun i _ e=>e))
 have fs:=Fr.set w8 ⟨l,2,none⟩ (.slice (some ⟨g8,0,none⟩) (s.uses.length+1) cap8)
 have hz:(w8.setCell ⟨l,2,none⟩ (.slice (some ⟨g8,0,none⟩) (s.uses.length+1) cap8)).heap.size=w8.heap.size:=by simp[World.setCell]
 have b8:=f8.box h.box (fun e=>by have:=hd l e;omega)
 have hgl:g8≠l:=by
  rintro rfl
  rcases hor with e | e
  ·have:=hd _ e;omega
  ·have:=h.lt _ h.lS;omega
 have hLS:∀g,LS g→Grow LS w (w8.setCell ⟨l,2,none⟩ (.slice (some ⟨g8,0,none⟩) (s.uses.length+1) cap8)) g:=fun g hg=>⟨by rw[hz];have:=h.lt g hg;have:=f8.size;omega,.inl hg⟩
 refine⟨.slice (some ⟨g8,0,none⟩) (s.uses.length+1) cap8,⟨?_,?_,?_,?_,h.lB,hLS l h.lS,fun g hg=>hLS g (h.dS g hg),?_,fun g hg=>hg.1⟩,(f8.mono fun i _ e=>h.uS i e).trans (fs.mono fun i _ e=>by rw[show i=l from e];exact h.lS)⟩
 ·have:=b8.set 2 (.slice (some ⟨g8,0,none⟩) (s.uses.length+1) cap8)
  simpa [lkc] using this
 ·exact fs.own (f8.own h.decls fun g e e2=>h.ap g e e2) (fun g e=>by have:=(h.decls.lt g e).1;show ¬g=l;omega)
 ·have:=fs.own hown (fun g e=>by simp only[Value.ownBlock] at e;injection e with e;subst e;exact hgl)
  rw[List.length_append,flat_append]
  simpa [flat] using this
 ·intro g e e2
  simp only[Value.ownBlock] at e2
  injection e2 with e2
  subst e2
  rcases hor with e3 | e3
  ·exact h.ap _ e e3
  ·have:=(h.decls.lt _ e).2;omega
 ·intro g e
  simp only[Value.ownBlock] at e
  injection e with e
  subst e
  refine⟨by rw[hz];exact hlt,?_⟩
  rcases hor with e | e
  ·exact .inl (h.uS _ e)
  ·right;omega
def RoomsAt (w:World) (M:Nat):(Nat→Prop)→List Scopy.Room→Value→Prop
 | _,[],v=>v= .pointer none
 | RS,r :: l,v=>∃(b mb c:Nat) (out:Value),v=at_ b 0∧Box w b 72 (rmc mb r.deep out)∧MapF natRdr w mb c r.f∧c≤M∧RS b∧RS mb∧RoomsAt w M (fun g=>RS g∧g≠b∧g≠mb) l out
theorem RoomsAt.fr {w w1:World} {M:Nat} {F:Nat→Prop} (hf:Fr w w1 F):∀{l:List Scopy.Room} {RS:Nat→Prop} {v:Value},RoomsAt w M RS l v→(∀g,RS g→¬F g)→RoomsAt w1 M RS l v
 | [],RS,v,h,_=>h
 | r :: l,RS,v,h,hn=>by
  obtain⟨b,mb,c,out,h1,h2,h3,h4,h5,h6,h7⟩:=h
  exact⟨b,mb,c,out,h1,hf.box h2 (hn b h5),hf.mapf h3 (hn mb h6),h4,h5,h6,RoomsAt.fr hf h7 fun g hg=>hn g hg.1⟩
theorem RoomsAt.sets {w:World} {M M':Nat} (hM:M≤M'):∀{l:List Scopy.Room} {RS RS':Nat→Prop} {v:Value},RoomsAt w M RS l v→(∀g,RS g→RS' g)→RoomsAt w M' RS' l v
 | [],RS,RS',v,h,_=>h
 | r :: l,RS,RS',v,h,hn=>by
  obtain⟨b,mb,c,out,h1,h2,h3,h4,h5,h6,h7⟩:=h
  exact⟨b,mb,c,out,h1,h2,h3,by omega,hn b h5,hn mb h6,RoomsAt.sets hM h7 fun g hg=>⟨hn g hg.1,hg.2⟩⟩
def RowHas (C:Array Value) (css:List (Array Value)):Prop:=∀i c,css[i]? =some c→c.size=4∧∀j,j<4→C[i * 4+j]? =c[j]?
mutual
def KidsIn (w:World):Nat→Nat→List Pars.Node→Value→Prop
 | lo,hi,[],v=>∃A c,v= .slice A 0 c∧c≤9223372036854775807
 | lo,hi,n :: l,v=>∃(b cap:Nat) (C:Array Value) (css:List (Array Value)),v= .slice (some ⟨b,0,none⟩) (n :: l).length cap∧(n :: l).length≤cap∧cap≤9223372036854775807∧lo≤b∧b<hi∧Box w b 24 C∧RowHas C css∧SubsIn w (b+1) hi (n :: l) css
def SubsIn (w:World):Nat→Nat→List Pars.Node→List (Array Value)→Prop
 | lo,hi,[],[]=>True
 | lo,hi,n :: l,c :: cs=>∃mid,lo≤mid∧mid≤hi∧NodeIn w lo mid n c∧SubsIn w mid hi l cs
 | lo,hi,[],_ :: _=>False
 | lo,hi,_ :: _,[]=>False
def NodeIn (w:World):Nat→Nat→Pars.Node→Array Value→Prop
 | lo,hi,.mk k nu t l,c=>∃v,c=nc k nu t v∧KidsIn w lo hi l v
end
mutual
theorem KidsIn.fr {w w1:World} {F:Nat→Prop} (hf:Fr w w1 F):∀{l:List Pars.Node} {lo hi:Nat} {v:Value},KidsIn w lo hi l v→(∀g,lo≤g→g<hi→¬F g)→KidsIn w1 lo hi l v
 | [],lo,hi,v,h,hn=>by unfold KidsIn at h ⊢;exact h
 | n :: l,lo,hi,v,h,hn=>by
  unfold KidsIn at h ⊢
  obtain⟨b,cap,C,css,h1,h2,h3,h4,h5,h6,h7,h8⟩:=h
  exact⟨b,cap,C,css,h1,h2,h3,h4,h5,hf.box h6 (hn b h4 h5),h7,SubsIn.fr hf h8 fun g h1 h2=>hn g (by omega) h2⟩
theorem SubsIn.fr {w w1:World} {F:Nat→Prop} (hf:Fr w w1 F):∀{l:List Pars.Node} {lo hi:Nat} {cs:List (Array Value)},SubsIn w lo hi l cs→(∀g,lo≤g→g<hi→¬F g)→SubsIn w1 lo hi l cs
 | [],lo,hi,[],h,hn=>by unfold SubsIn;trivial
 | n :: l,lo,hi,c :: cs,h,hn=>by
  unfold SubsIn at h ⊢
  obtain⟨mid,h1,h2,h3,h4⟩:=h
  exact⟨mid,h1,h2,NodeIn.fr hf h3 fun g a b=>hn g a (by omega),SubsIn.fr hf h4 fun g a b=>hn g (by omega) b⟩
 | [],lo,hi,_ :: _,h,hn=>by unfold SubsIn at h;exact h.elim
 | _ :: _,lo,hi,[],h,hn=>by unfold SubsIn at h;exact h.elim
theorem NodeIn.fr {w w1:World} {F:Nat→Prop} (hf:Fr w w1 F):∀{n:Pars.Node} {lo hi:Nat} {c:Array Value},NodeIn w lo hi n c→(∀g,lo≤g→g<hi→¬F g)→NodeIn w1 lo hi n c
 | .mk k nu t l,lo,hi,c,h,hn=>by
  unfold NodeIn at h ⊢
  obtain⟨v,h1,h2⟩:=h
  exact⟨v,h1,KidsIn.fr hf h2 hn⟩
end
theorem SubsIn.len {w:World}:∀{l:List Pars.Node} {lo hi:Nat} {cs:List (Array Value)},SubsIn w lo hi l cs→cs.length=l.length
 | [],lo,hi,[],h=>rfl
 | n :: l,lo,hi,c :: cs,h=>by
  unfold SubsIn at h
  obtain⟨mid,_,_,_,h⟩:=h
  simp[SubsIn.len h]
 | [],lo,hi,_ :: _,h=>by unfold SubsIn at h;exact h.elim
 | _ :: _,lo,hi,[],h=>by unfold SubsIn at h;exact h.elim
theorem SubsIn.at {w:World}:∀{l:List Pars.Node} {lo hi:Nat} {cs:List (Array Value)} {i:Nat} {x:Pars.Node},SubsIn w lo hi l cs→lo≤hi→l[i]? =some x→
  ∃a b c,lo≤a∧a≤b∧b≤hi∧cs[i]? =some c∧NodeIn w a b x c∧
   ∀{w1:World} {F:Nat→Prop} {x':Pars.Node} {c':Array Value},Fr w w1 F→(∀g,lo≤g→g<hi→(g<a∨b≤g)→¬F g)→NodeIn w1 a b x' c'→SubsIn w1 lo hi (l.set i x') (cs.set i c')
 | [],lo,hi,cs,i,x,h,_,hx=>by simp at hx
 | n :: l,lo,hi,c :: cs,0,x,h,hh,hx=>by
  have hx:n=x:=by simpa using hx
  subst hx
  unfold SubsIn at h
  obtain⟨mid,h1,h2,h3,h4⟩:=h
  refine⟨lo,mid,c,Nat.le_refl _,h1,h2,rfl,h3,fun hf hn hx=> ?_⟩
  simp only[List.set_cons_zero]
  unfold SubsIn
  exact⟨mid,h1,h2,hx,h4.fr hf fun g a b=>hn g (by omega) b (.inr a)⟩
 | n :: l,lo,hi,c :: cs,i+1,x,h,hh,hx=>by
  have hx:l[i]? =some x:=by simpa using hx
  unfold SubsIn at h
  obtain⟨mid,h1,h2,h3,h4⟩:=h
  obtain⟨a,b,d,g1,g2,g3,g4,g5,g6⟩:=SubsIn.at h4 h2 hx
  refine⟨a,b,d,by omega,g2,g3,by simpa using g4,g5,fun hf hn hx=> ?_⟩
  simp only[List.set_cons_succ]
  unfold SubsIn
  exact⟨mid,h1,h2,h3.fr hf fun g p q=>hn g p (by omega) (.inl (by omega)),g6 hf (fun g p q r=>hn g (by omega) q r) hx⟩
 | n :: l,lo,hi,[],i,x,h,_,_=>by unfold SubsIn at h;exact h.elim
theorem NodeIn.size {w:World}:∀{n:Pars.Node} {lo hi:Nat} {c:Array Value},NodeIn w lo hi n c→c.size=4
 | .mk k nu t l,lo,hi,c,h=>by unfold NodeIn at h;obtain⟨v,rfl,_⟩:=h;rfl
def Cells4 (C:Array Value) (o:Nat) (c:Array Value):Prop:=∀j,j<4→C[o+j]? =c[j]?
theorem Cells4.text {C:Array Value} {o:Nat} {k nu:Int} {t t':List UInt8} {v:Value} (h:Cells4 C o (nc k nu t v)):Cells4 (C.setIfInBounds (o+2) (.string (byt t'))) o (nc k nu t' v):=by
 intro j hj
 rw[Array.getElem?_setIfInBounds]
 have h2:=h 2 (by omega)
 have hlt:o+2<C.size:=by
  rcases Nat.lt_or_ge (o+2) C.size with q | q
  ·exact q
  ·rw[Array.getElem?_eq_none q] at h2;simp[nc] at h2
 rcases j with _ | _ | _ | _ | j
 ·rw[if_neg (by omega)];exact h 0 (by omega)
 ·rw[if_neg (by omega)];exact h 1 (by omega)
 ·rw[if_pos rfl,if_pos hlt];rfl
 ·rw[if_neg (by omega)];exact h 3 (by omega)
 ·omega
theorem RowHas.cells {C:Array Value} {css:List (Array Value)} (h:RowHas C css) {i:Nat} {c:Array Value} (hc:css[i]? =some c):Cells4 C (i * 4) c:=(h i c hc).2
def Same4 (C C':Array Value) (o:Nat):Prop:=C'.size=C.size∧∀q,q<o∨o+4≤q→C'[q]? =C[q]?
theorem Same4.text (C:Array Value) (o:Nat) (u:Value):Same4 C (C.setIfInBounds (o+2) u) o:=by
 refine⟨by simp,fun q hq=> ?_⟩
 rw[Array.getElem?_setIfInBounds,if_neg (by omega)]
theorem Same4.refl (C:Array Value) (o:Nat):Same4 C C o:=⟨rfl,fun _ _=>rfl⟩
theorem Same4.trans {C D E:Array Value} {o:Nat} (h:Same4 C D o) (k:Same4 D E o):Same4 C E o:=⟨k.1.trans h.1,fun q hq=>(k.2 q hq).trans (h.2 q hq)⟩
theorem RowHas.set {C C':Array Value} {css:List (Array Value)} {i:Nat} {c':Array Value} (h:RowHas C css) (hs:Same4 C C' (i * 4)) (hc:Cells4 C' (i * 4) c') (h4:c'.size=4):RowHas C' (css.set i c'):=by
 intro j c hj
 by_cases e:i=j
 ·subst e
  have hl:i<css.length:=by
   rcases Nat.lt_or_ge i css.length with q | q
   ·exact q
   ·rw[List.getElem?_eq_none (by simpa using q)] at hj;cases hj
  rw[List.getElem?_set_self hl] at hj
  injection hj with hj
  subst hj
  exact⟨h4,hc⟩
 ·rw[List.getElem?_set_ne e] at hj
  obtain⟨h1,h2⟩:=h j c hj
  exact⟨h1,fun q hq=>by rw[hs.2 _ (by omega)];exact h2 q hq⟩
end Go.Proofs.YtflmjbmdmoifhaaGreatDoor
namespace Go.Proofs.YtflmjbmdmoifhaaGreatDoor
open Go.Lib (hid)
open Go.RowKit
theorem within_room (p:Option Addr) (d:Nat) (w:World):Calls Tryz.prog 41 #[.pointer p,.int .i64 (d:Int)] w fun e w'=>e= .returned (at_ (w.heap.size+1) 0)∧Box w' (w.heap.size+1) 72 (rmc w.heap.size d (.pointer p))∧MapF natRdr w' w.heap.size 0 Scopy.empty∧Below w.heap.size w w'∧w'.heap.size=w.heap.size+2:=by
 have hmm:=@run_makeMap Tryz.prog
 go_enter Tryz.func41,Tryz.ntmps41
 go_wp2
 go_ret
 refine⟨rfl,?_,(MapF.made natRdr w).below (below1 _ _),(below1 w _).trans ((below1 (w.alloc (.map #[] 0)) _).mono (by simp)),by simp⟩
 have:=Box.new (w.alloc (.map #[] 0)) 72 (rmc w.heap.size d (.pointer p))
 simpa [rmc] using this
theorem parts_dec:(Tryz.prog.info? 36).map (fun i=>(i.zero,i.size,i.bytes))=some (some (.agg #[.int .i64 0,.string ⟨#[]⟩,.int .i64 0,.bool false]),4,40):=by kernel_rfl
theorem parts_use:(Tryz.prog.info? 39).map (fun i=>(i.zero,i.size,i.bytes))=some (some (.agg #[.string ⟨#[]⟩,.int .i64 0]),2,24):=by kernel_rfl
theorem parts_of {P:Program} {t:TypeId} {z:Value} {k b:Nat} (h:(P.info? t).map (fun i=>(i.zero,i.size,i.bytes))=some (some z,k,b)):∃i,P.info? t=some i∧i.zero=some z∧i.size=k∧i.bytes=b:=by
 cases hi:P.info? t with
 | none=>rw[hi] at h;cases h
 | some i=>
  rw[hi] at h
  simp only[Option.map_some,Option.some.injEq,Prod.mk.injEq] at h
  exact⟨i,rfl,h.1,h.2.1,h.2.2⟩
structure Tells (w:World) (LS:Nat→Prop) (g o b mb c:Nat) (C:Array Value) (k nu:Int) (t:List UInt8) (v:Value) (r0:Scopy.Room) (out:Value):Prop where
 node:Box w g 24 C
 cells:Cells4 C o (nc k nu t v)
 room:Box w b 72 (rmc mb r0.deep out)
 map:MapF natRdr w mb c r0.f
 ng:¬LS g
 nb:¬LS b
 nm:¬LS mb
 gb:g≠b
 gm:g≠mb
 bm:b≠mb
 tl:t.length≤4000000
def TellOut (w:World) (l B:Nat) (kv:Value) (known:List (List UInt8)) (dk:Int) (nm:List UInt8) (LS:Nat→Prop) (s:Scopy.St) (kd:Int) (g o mb c:Nat) (C:Array Value) (k nu:Int) (t:List UInt8) (v:Value) (uv:Value) (e:Ending) (w':World):Prop:=
 e= .returned (.tuple #[])∧∃dv' C',Lk w' l B kv dk nm (Grow LS w w') ((Scopy.hs known dk nm).decl kd t s).1 dv' uv∧Box w' g 24 C'∧Same4 C C' o∧Cells4 C' o (nc k nu ((Scopy.hs known dk nm).decl kd t s).2 v)∧(∃c',c'≤((Scopy.hs known dk nm).decl kd t s).1.decls.length∧MapF natRdr w' mb c' ((Scopy.hs known dk nm).decl kd t s).1.top.f)∧Fr w w' (fun i=>LS i∨i=g∨i=mb)
set_option maxRecDepth 100000 in
set_option maxHeartbeats 8000000 in
theorem tell_any {w:World} {l B:Nat} {kv:Value} {dk:Int} {nm:List UInt8} {LS:Nat→Prop} {s:Scopy.St} {dv uv:Value} {g o b mb c:Nat} {C:Array Value} {k nu:Int} {t:List UInt8} {v:Value} {r0:Scopy.Room} {rest:List Scopy.Room} {out:Value} (known:List (List UInt8)) (kd:Int)
  (hl:Lk w l B kv dk nm LS s dv uv) (ht:Tells w LS g o b mb c C k nu t v r0 out) (hs:s.rooms=r0 :: rest) (hB:B≤w.heap.size) (hn:s.decls.length≤4000000) (hcd:c≤s.decls.length):
  Calls Tryz.prog 42 #[at_ l 0,at_ b 0,.int .i64 kd,at_ g o] w (TellOut w l B kv known dk nm LS s kd g o mb c C k nu t v uv):=by
 have HL:=hid hl
 have HT:=hid ht
 have HS:=hid hs
 have htop:s.top=r0:=by unfold Scopy.St.top;rw[hs];rfl
 have HTOP:=hid htop
 have l3:=hl.box.cell 3
 have r0c:=ht.room.cell 0
 have r1c:=ht.room.cell 1
 have g2:w.cell? ⟨g,o+2,none⟩=some (.string (byt t)):=by rw[ht.node.cell];exact ht.cells 2 (by omega)
 simp[lkc,rmc] at l3 r0c r1c
 rcases Scopy.decl_cases (known:=known) (dk:=dk) (nm:=nm) kd t s with⟨e0,e⟩ | ⟨e0,h1,e⟩ | ⟨e0,h1,e⟩
 ·have HE:=hid e
  have hne:(((s.e:Nat):Int) != 0)=true:=by simp[e0]
  clear e hs htop hl ht
  go_enter Tryz.func42,Tryz.ntmps42
  go_wp2_with fail
  refine bodyPost_ret (results_none rfl _ _ _) rfl ?_
  unfold TellOut
  rw[HE.out]
  exact⟨rfl,dv,C,HL.out.sets (fun g hg=>⟨HL.out.lt g hg,.inl hg⟩) (fun g hg=>hg.1),HT.out.node,Same4.refl C o,HT.out.cells,⟨c,hcd,by rw[show ((s,t):Scopy.St×List UInt8).1.top=r0 from HTOP.out];exact HT.out.map⟩,Fr.refl w _⟩
 ·have HE:=hid e
  rw[htop] at h1
  obtain⟨q,hq⟩:∃q,r0.f t=some q:=Option.isSome_iff_exists.1 h1
  have hne:(((s.e:Nat):Int) != 0)=false:=by simp[e0]
  have hlk:∀n,(Instr.lookup 70 (.map (some mb)) (.string (byt t)) true).run Tryz.prog (w.drewN n)= .ok (.tuple #[.int .i64 (q:Int),.bool true]) (w.drewN n):=fun n=>by
   have:=(ht.map.block (w':=w.drewN n) rfl).look_ok Tryz.underlying70 (zero_nat (w.drewN n)) t (by have:=ht.tl;unfold maxLen;omega)
   rw[hq] at this
   exact this
  clear e hs htop hl ht h1 hq
  go_enter Tryz.func42,Tryz.ntmps42
  go_upto_region 1 with fail
  go_quiet (fail)
  have HL1:=hid (HL.out.fr (Fr.drewN w nq (fun _=>False)) fun g _ h=>h)
  have hbn:Box (w.drewN nq) g 24 C:=HT.out.node
  have hmn:MapF natRdr (w.drewN nq) mb c r0.f:=HT.out.map.block rfl
  have hfr:=Fr.drewN w nq (fun i=>LS i∨i=g∨i=mb)
  obtain⟨W,hW⟩:∃W,w.drewN nq=W:=⟨_,rfl⟩
  rw[hW] at HL1 hbn hmn hfr ⊢
  have l3f:=HL1.out.box.frozen 3
  have l3c:=HL1.out.box.cell 3
  simp[lkc] at l3c
  clear hW hlk r0c r1c g2 l3
  go_wp2_with fail
  refine bodyPost_ret (results_none rfl _ _ _) rfl ?_
  unfold TellOut
  rw[HE.out]
  have hs3:=Fr.set W ⟨l,3,none⟩ (.int .i64 6)
  have hlk3:¬LS mb:=HT.out.nm
  refine⟨rfl,dv,C,(HL1.out.wrong 6).sets (fun g hg=>⟨by have:=HL1.out.lt g hg;simpa [World.setCell] using this,.inl hg⟩) (fun g hg=>hg.1),hs3.box hbn fun e2=>HT.out.ng (e2 ▸ HL1.out.lS),Same4.refl C o,HT.out.cells,?_,hfr.step hs3 fun i _ e2=> .inl (e2 ▸ HL1.out.lS)⟩
  refine⟨c,hcd,?_⟩
  rw[show ({s with e:=6}:Scopy.St).top=r0 from HTOP.out]
  exact hs3.mapf hmn fun e2=>hlk3 (e2 ▸ HL1.out.lS)
 ·have HE:=hid e
  have hne:(((s.e:Nat):Int) != 0)=false:=by simp[e0]
  have hlk:∀n,(Instr.lookup 70 (.map (some mb)) (.string (byt t)) true).run Tryz.prog (w.drewN n)= .ok (.tuple #[.int .i64 0,.bool false]) (w.drewN n):=fun n=>by
   have:=(ht.map.block (w':=w.drewN n) rfl).look_ok Tryz.underlying70 (zero_nat (w.drewN n)) t (by have:=ht.tl;unfold maxLen;omega)
   rw[htop] at h1
   rw[h1] at this
   exact this
  clear e hs htop hl ht h1
  go_enter Tryz.func42,Tryz.ntmps42
  go_upto_region 1 with fail
  go_quiet (fail)
  have HL1:=hid (HL.out.fr (Fr.drewN w nq (fun _=>False)) fun g _ h=>h)
  have hbn:Box (w.drewN nq) g 24 C:=HT.out.node
  have hrm:Box (w.drewN nq) b 72 (rmc mb r0.deep out):=HT.out.room
  have hmn:MapF natRdr (w.drewN nq) mb c r0.f:=HT.out.map.block rfl
  have hfr:=Fr.drewN w nq (fun i=>LS i∨i=g∨i=mb)
  have hBz:B≤(w.drewN nq).heap.size:=hB
  obtain⟨W,hW⟩:∃W,w.drewN nq=W:=⟨_,rfl⟩
  rw[hW] at HL1 hbn hmn hfr hrm hBz ⊢
  obtain⟨A,cap,hdv⟩:=own_slice HL1.out.decls
  obtain⟨n,hnn⟩:∃n,s.decls.length=n:=⟨_,rfl⟩
  have HN:=hid hnn
  rw[hnn] at hdv hn hcd
  subst hdv
  have HRM:=hid hrm
  have HMN:=hid hmn
  have HBN:=hid hbn
  have HFR:=hid hfr
  have p0:=hrm.cell 0
  have p2:=HL1.out.box.cell 1
  have p3:W.cell? ⟨g,o+2,none⟩=some (.string (byt t)):=by rw[hbn.cell];exact HT.out.cells 2 (by omega)
  simp[rmc,lkc] at p0 p2
  have hmD:MapF natRdr W.drew mb c r0.f:=hmn.block rfl
  have hcl:c<maxLen:=by unfold maxLen;omega
  have htl:t.length≤maxLen:=by have:=HT.out.tl;unfold maxLen;omega
  clear hW hlk r0c r1c g2 l3 hnn hrm hmn hbn hfr hB
  go_upto_region 4 with fail
  go_still_tail 13,(by kernel_rfl)
  change wpList _ _ _ _ _ W.drew
  go_wp2_with (refine wpList_mapf_store rfl (.tmp 34) (.tmp 38) (.tmp 43) 70 rfl 3 Tryz.underlying70 hmD rfl hcl t htl rfl n rfl ?_;intro w2 hm2 hu2 hz2;have HM2:=hid hm2;have HU2:=hid hu2;have HZ2:=hid hz2;clear hm2 hu2 hz2)
  have f2:Fr W w2 (fun i=>i=mb):=⟨HU2.out.os,HU2.out.tape,HU2.out.output,HU2.out.size,fun i hi hn=>HU2.out.block i hi (fun e=>hn (by injection e))⟩
  have HL2:=hid (HL1.out.fr f2 fun g hg e=>HT.out.nm (e ▸ hg))
  have HRM2:=hid (f2.box HRM.out HT.out.bm)
  have HBN2:=hid (f2.box HBN.out HT.out.gm)
  have HFR2:=hid (HFR.out.step f2 fun i _ e=> .inr (.inr e))
  have HBZ2:=hid (Nat.le_trans hBz f2.size)
  clear p0 p2 p3 hmD hcl htl HMN HRM HBN HFR f2 HU2 HZ2 HL1
  have p0:=HL2.out.box.cell 1
  have p1:w2.cell? ⟨g,o+2,none⟩=some (.string (byt t)):=by rw[HBN2.out.cell];exact HT.out.cells 2 (by omega)
  have p2:=HRM2.out.cell 1
  simp[rmc,lkc] at p0 p2
  obtain⟨i0,hi0,hz0,hz1,hz2⟩:=parts_of parts_dec
  have h1:Hid (∀u∈(dc ⟨kd,t,r0.deep,false⟩).toList,u.oneCell'=true):=fun u hu=>flat_one (f:=dc) dc_one [⟨kd,t,r0.deep,false⟩] u (by simpa [flat] using hu)
  have hBz2:B≤w2.heap.size+1:=by have:=HBZ2.out;omega
  have hdB:Hid (∀q,(Value.slice A n cap).ownBlock=some q→B≤q∧q<w2.heap.size):=hid (fun q hq=>HL2.out.decls.lt q hq)
  have hlB:=HL2.out.lB
  have hll:=HL2.out.box.lt
  have hgl:=HBN2.out.lt
  have hbl:=HRM2.out.lt
  have HOWN:Hid (w2.ownsRow B 36 4 (.slice A n cap) n (flat dc s.decls)):=by
   have:=HL2.out.decls
   rw[HN.out] at this
   exact this
  go_cut [] from 44 to 63 (fun wx=>∃dv',Lk wx l B kv dk nm (Grow LS w2 wx) {s with decls:=s.decls++[⟨kd,t,r0.deep,false⟩]} dv' uv∧Fr w2 wx LS)
  case first=>
   go_wp2_with fail
   go_region_law (refine step_append_lies _ rfl (.tmp 48) (.tmp 59) 26 rfl B 36 i0 _ 4 40 Tryz.underlying26 hi0 hz0 hz1 hz2 rfl (by decide) (.slice A n cap) n (flat dc s.decls) (by simp[Act.eval,Act.put]) (by exact HOWN.out.alloc _) ⟨w2.heap.size,0,none⟩ 1 1 (dc ⟨kd,t,r0.deep,false⟩).toList (by simp[Act.eval,Act.put]) rfl (by exact World.news_of_block (Box.new w2 _ (dc ⟨kd,t,r0.deep,false⟩))) h1.out (by omega) (by unfold maxLen;omega) (by omega) (by simpa using hBz2) (w2.heap.size+1) (by simp) ?_;intro g8 cap8 w8 hown8 hgr8 hor8 hlt8;have hb8:Box w8 l 53 (lkc kv (.slice A n cap) uv s.e dk nm):=(Box.drew (Box.alloc HL2.out.box (.cells (dc ⟨kd,t,r0.deep,false⟩) 36))).grown hgr8 (fun h=>by have:=hdB.out l h.symm;omega);have row8:=hb8.cell 1;have frow8:=hb8.frozen 1;simp[lkc] at row8)
   all_goals
    go_wp2_with fail
    go_meet
    exact HL2.out.app_decl ⟨kd,t,r0.deep,false⟩ HN.out HBZ2.out hown8 hgr8 hor8 hlt8
  case rest=>
   obtain⟨dv',hlw,hfw⟩:=hcut
   obtain⟨A2,cap2,hdv0⟩:=own_slice hlw.decls
   have hlen:(s.decls++[(⟨kd,t,r0.deep,false⟩:Scopy.Decl)]).length=n+1:=by rw[List.length_append,HN.out];rfl
   have hdv2:dv'= .slice A2 (n+1) cap2:=by rw[hdv0];show Value.slice A2 (s.decls++[(⟨kd,t,r0.deep,false⟩:Scopy.Decl)]).length cap2=_;rw[hlen]
   clear hdv0
   subst hdv2
   have HL3:=hid hlw
   have HBN3:=hid (hfw.box HBN2.out HT.out.ng)
   have HM3:Hid (MapF natRdr wc mb (c+1) (putF r0.f t (some n))):=hid (hfw.mapf HM2.out HT.out.nm)
   have HFR3:=hid (HFR2.out.step hfw fun i _ e=> .inl e)
   have HTL:Hid (({s with rooms:={s.top with f:=Scopy.put s.top.f t s.decls.length} :: s.rooms.tail,decls:=s.decls++[⟨kd,t,s.top.deep,false⟩]}:Scopy.St).top.f=putF r0.f t (some n)):=by
    show Scopy.put s.top.f t s.decls.length=putF r0.f t (some n)
    rw[HTOP.out,HN.out]
    rfl
   have HC1:Hid (c+1≤(s.decls++[(⟨kd,t,s.top.deep,false⟩:Scopy.Decl)]).length):=hid (by rw[List.length_append,HN.out];simp;omega)
   have HG2:Hid (g<w2.heap.size):=hid HBN2.out.lt
   have HSZ:Hid (∀i,LS i→i<w.heap.size):=hid HL.out.lt
   have HLS3:Hid (∀(W:World),wc.heap.size≤W.heap.size→∀i,Grow LS w2 wc i→Grow LS w W i):=hid fun W hW i hi=>by
    have h1:=HL.out.lt
    have h2:=HFR2.out.size
    obtain⟨h3,h4⟩:=hi
    refine⟨by omega,?_⟩
    rcases h4 with h4 | h4
    ·exact .inl h4
    ·right;omega
   have l1c:=hlw.box.cell 1
   have l4c:=hlw.box.cell 4
   have l5c:=hlw.box.cell 5
   simp[lkc] at l1c l4c l5c
   have hsub:IntKind.i64.wrap ((n:Int)+1 - 1)=(n:Int):=by rw[IntKind.wrap_i64];omega
   have ngf:=HBN3.out.frozen (o+2)
   have ngc:wc.cell? ⟨g,o+2,none⟩=some (.string (byt t)):=by rw[HBN3.out.cell];exact HT.out.cells 2 (by omega)
   have HOL:Hid (o+2<C.size):=by
    have h2:=HT.out.cells 2 (by omega)
    rcases Nat.lt_or_ge (o+2) C.size with q | q
    ·exact q
    ·rw[Array.getElem?_eq_none q] at h2;simp[nc] at h2
   clear hlw hfw hlen p0 p1 p2 hi0 hz0 hz1 hz2 h1 hBz2 hdB hlB hll hgl hbl HOWN HFR2 HBN2 HRM2 HL2 HM2
   by_cases hk:(n:Int)=dk
   ·have q1:((n:Int)==dk)=true:=by simp[hk]
    have q2:decide ((n:Int)=dk)=true:=by simp[hk]
    clear hk
    go_upto_region 6 with fail
    go_quiet (fail)
    go_wp2_with fail
    refine bodyPost_end (results_none rfl _ _ _) rfl ?_
    unfold TellOut
    rw[HE.out]
    have fn:=Fr.drewN wc nq (fun _=>False)
    have fs:=Fr.set (wc.drewN nq) ⟨g,o+2,none⟩ (.string (byt nm))
    have hif:(if ((s.decls.length:Nat):Int)=dk then nm else t)=nm:=by rw[HN.out];exact if_pos (by simpa using q2)
    have hw:Fr wc ((wc.drewN nq).setCell ⟨g,o+2,none⟩ (.string (byt nm))) (fun i=>i=g):=(fn.mono fun i _ e=>e.elim).trans fs
    have hng:¬Grow LS w2 wc g:=fun h=>by
     have h1:=HBN3.out.lt
     rcases h.2 with e | e
     ·exact HT.out.ng e
     ·have:=HG2.out;omega
    refine⟨rfl,.slice A2 (n+1) cap2,C.setIfInBounds (o+2) (.string (byt nm)),((HL3.out.fr hw fun i hi e=>hng (e ▸ hi)).sets (fun i hi=>HLS3.out _ hw.size i hi) (fun i hi=>hi.1)).state (by simp only[];rw[HTOP.out]) rfl rfl,Box.set (w:=wc.drewN nq) HBN3.out (o+2) _,Same4.text C o _,by simp only[hif];exact HT.out.cells.text,⟨c+1,HC1.out,by rw[HTL.out];exact hw.mapf HM3.out (fun e=>HT.out.gm e.symm)⟩,HFR3.out.step hw fun i _ e=> .inr (.inl e)⟩
   ·have q1:((n:Int)==dk)=false:=by simp[hk]
    have q2:decide ((n:Int)=dk)=false:=by simp[hk]
    go_upto_region 6 with fail
    go_quiet (fail)
    go_wp2_with fail
    refine bodyPost_end (results_none rfl _ _ _) rfl ?_
    unfold TellOut
    rw[HE.out]
    have fn:=Fr.drewN wc nq (fun _=>False)
    have hif:(if ((s.decls.length:Nat):Int)=dk then nm else t)=t:=by rw[HN.out];exact if_neg (fun h=>by rw[h] at q2;simp at q2)
    refine⟨rfl,.slice A2 (n+1) cap2,C,((HL3.out.fr fn fun g _ h=>h).sets (fun i hi=>HLS3.out _ (Nat.le_refl _) i hi) (fun i hi=>hi.1)).state (by simp only[];rw[HTOP.out]) rfl rfl,HBN3.out,Same4.refl C o,by simp only[hif];exact HT.out.cells,⟨c+1,HC1.out,by rw[HTL.out];exact HM3.out.block rfl⟩,HFR3.out.step fn fun i _ e=>e.elim⟩
end Go.Proofs.YtflmjbmdmoifhaaGreatDoor
namespace Go.Proofs.YtflmjbmdmoifhaaGreatDoor
open Go.Lib (hid)
open Go.RowKit
def KnAt (w:World) (kb:Nat) (known:List (List UInt8)) (v:Value):Prop:=
 ∃A cap,v= .slice A known.length cap∧known.length≤cap∧cap≤9223372036854775807∧(0<known.length→∃g o,A=some ⟨g,o,none⟩∧g<kb∧g<w.heap.size∧∀j,j<known.length→w.cell? ⟨g,o+j,none⟩=some (.string ((known.map byt).getD j ByteArray.empty)))
theorem KnAt.fr {w w1:World} {kb:Nat} {known:List (List UInt8)} {v:Value} {F:Nat→Prop} (h:KnAt w kb known v) (hf:Fr w w1 F) (hn:∀i,i<kb→¬F i):KnAt w1 kb known v:=by
 obtain⟨A,cap,e,h1,h2,h3⟩:=h
 refine⟨A,cap,e,h1,h2,fun hp=> ?_⟩
 obtain⟨g,o,e1,h4,h6,h5⟩:=h3 hp
 exact⟨g,o,e1,h4,by have:=hf.size;omega,fun j hj=>by rw[World.cell?_of_block (hf.block g h6 (hn g h4))];exact h5 j hj⟩
theorem known_any {w:World} {kb:Nat} {known:List (List UInt8)} {v:Value} (h:KnAt w kb known v) (x:List UInt8):
  Calls Tryz.prog 13 #[v,.string (byt x)] w fun e w'=>e= .returned (.bool (known.contains x))∧w'=w:=by
 obtain⟨A,cap,rfl,h1,h2,h3⟩:=h
 rcases Nat.eq_zero_or_pos known.length with h0 | hp
 ·have:=Tryz.slices_Contains_string_empty A cap (byt x) w
  rw[List.eq_nil_of_length_eq_zero h0]
  exact this
 ·obtain⟨g,o,rfl,_,_,h5⟩:=h3 hp
  have h:=Tryz.slices_Contains_string g o known.length cap (known.map byt) (byt x) w (by simp) (by omega) (fun j hj=>h5 j (by simpa using hj))
  have hn:Lib.containsS ((known.map byt).take known.length) (byt x)=known.contains x:=by
   rw[List.take_of_length_le (by simp),Bool.eq_iff_iff,Lib.containsS_iff]
   simp only[List.mem_map,List.contains_iff_mem]
   exact⟨fun ⟨y,hy,e⟩=>byt_inj e ▸ hy,fun hx=>⟨x,hx,rfl⟩⟩
  rw[hn] at h
  exact h
theorem decl_cells {w:World} {B n cap:Nat} {A:Option Addr} {ds:List Scopy.Decl} {k:Nat} {d:Scopy.Decl} (h:w.ownsRow B 36 4 (.slice A n cap) n (flat dc ds)) (hn:ds.length=n) (hk:ds[k]? =some d):
  ∃g,A=some ⟨g,0,none⟩∧B≤g∧g<w.heap.size∧n≤cap∧k<n∧w.cell? ⟨g,k * 4+2,none⟩=some (.int .i64 (d.deep:Int))∧w.cell? ⟨g,k * 4+3,none⟩=some (.bool d.caught)∧w.frozen? ⟨g,k * 4+3,none⟩=false∧
   (w.setCell ⟨g,k * 4+3,none⟩ (.bool true)).ownsRow B 36 4 (.slice A n cap) n (flat dc (ds.set k {d with caught:=true})):=by
 have hkl:k<ds.length:=(List.getElem?_eq_some_iff.1 hk).1
 rcases h.2 with⟨_,h0⟩ | ⟨g,cap',cur,hv,hb,hg,h1,h2,h3,h4⟩
 ·omega
 ·injection hv with hA _ hc
  subst hA hc
  have hgl:g<w.heap.size:=(Array.getElem?_eq_some_iff.1 hg).1
  have hfl:=flat_len (f:=dc) dc_size ds
  have cell:∀j,j<4→w.cell? ⟨g,k * 4+j,none⟩=(dc d).toList[j]? :=fun j hj=>by
   have hlt:j<(dc d).toList.length:=hj
   have e1:=flat_at (f:=dc) dc_size ds k d hk j _ (List.getElem?_eq_getElem hlt)
   have hb2:Box w g 36 cur:=hg
   rw[hb2.cell, ←Array.getElem?_toList,List.getElem?_eq_getElem hlt, ←e1, ←h4,List.getElem?_take,if_pos (by omega)]
  have hb2:Box w g 36 cur:=hg
  refine⟨g,rfl,hb,hgl,h1,by omega,cell 2 (by omega),cell 3 (by omega),hb2.frozen _,?_⟩
  have hset:=hb2.set (k * 4+3) (.bool true)
  have e5:cur.toList.take (n * 4)=flat dc ds:=h4
  refine⟨by rw[flat_len (f:=dc) dc_size,List.length_set,hn],.inr ⟨g,cap,cur.setIfInBounds (k * 4+3) (.bool true),rfl,hb,hset,h1,h2,by simpa using h3,?_⟩⟩
  rw[Array.toList_setIfInBounds,List.take_set,e5]
  have hsplit:ds=ds.take k++d :: ds.drop (k+1):=by
   have:=List.take_append_drop k ds
   rw[List.drop_eq_getElem_cons hkl,(List.getElem?_eq_some_iff.1 hk).2] at this
   exact this.symm
  have hlk:(ds.take k).length=k:=by simp;omega
  have e6:ds.set k {d with caught:=true}=ds.take k++{d with caught:=true} :: ds.drop (k+1):=by
   conv=>lhs;rw[hsplit]
   rw[List.set_append_right _ _ (by omega),hlk,Nat.sub_self]
   rfl
  rw[e6]
  conv=>lhs;rw[hsplit]
  rw[flat_append,flat_append,flat_cons,flat_cons]
  have hfk:=flat_len (f:=dc) dc_size (ds.take k)
  rw[hlk] at hfk
  rw[List.set_append_right _ _ (by omega),hfk,show k * 4+3 - k * 4=3 by omega]
  rfl
theorem mark_yes {ds:List Scopy.Decl} {k dp:Nat} {d:Scopy.Decl} (h:ds[k]? =some d) (hd:d.deep<dp):Scopy.mark ds k dp=ds.set k {d with caught:=true}:=by
 apply List.ext_getElem?
 intro j
 rw[Scopy.mark_get,List.getElem?_set]
 by_cases e:k=j
 ·subst e
  rw[h,if_pos rfl,if_pos (List.getElem?_eq_some_iff.1 h).1]
  simp[hd]
 ·rw[if_neg e]
  cases ds[j]? <;>simp[e]
theorem mark_no {ds:List Scopy.Decl} {k dp:Nat} {d:Scopy.Decl} (h:ds[k]? =some d) (hd:¬d.deep<dp):Scopy.mark ds k dp=ds:=by
 apply List.ext_getElem?
 intro j
 rw[Scopy.mark_get]
 by_cases e:k=j
 ·subst e
  rw[h]
  simp[hd]
 ·cases ds[j]? <;>simp[e]
theorem Lk.caught {w:World} {l B:Nat} {kv:Value} {dk:Int} {nm:List UInt8} {LS:Nat→Prop} {s:Scopy.St} {uv:Value} {A:Option Addr} {cap n g k:Nat} {ds:List Scopy.Decl} (h:Lk w l B kv dk nm LS s (.slice A n cap) uv) (hA:A=some ⟨g,0,none⟩) (hn:s.decls.length=n) (hd:ds.length=n) (hB:B≤g)
  (ho:(w.setCell ⟨g,k,none⟩ (.bool true)).ownsRow B 36 4 (.slice A n cap) n (flat dc ds)):Lk (w.setCell ⟨g,k,none⟩ (.bool true)) l B kv dk nm LS {s with decls:=ds} (.slice A n cap) uv:=by
 have fs:=Fr.set w ⟨g,k,none⟩ (.bool true)
 have hlB:=h.lB
 refine⟨fs.box h.box (by show ¬l=g;omega),by rw[hd];exact ho,fs.own h.uses fun q e e2=> ?_,h.ap,h.lB,h.lS,h.dS,h.uS,fun q hq=>by have:=h.lt q hq;have:=fs.size;omega⟩
 have e2:q=g:=e2
 subst e2
 exact h.ap q (by rw[hA];rfl) e
structure Uses (w:World) (LS RS:Nat→Prop) (g o M:Nat) (C:Array Value) (k nu:Int) (t:List UInt8) (v rv:Value) (rooms:List Scopy.Room):Prop where
 node:Box w g 24 C
 cells:Cells4 C o (nc k nu t v)
 rooms:RoomsAt w M RS rooms rv
 ng:¬LS g
 nR:∀i,RS i→¬LS i
 gR:¬RS g
 tl:t.length≤4000000
def UseOut (w:World) (l B:Nat) (kv:Value) (known:List (List UInt8)) (dk:Int) (nm:List UInt8) (LS:Nat→Prop) (s:Scopy.St) (g o:Nat) (C:Array Value) (k nu:Int) (t:List UInt8) (v:Value) (e:Ending) (w':World):Prop:=
 e= .returned (.tuple #[])∧∃dv' uv' C',Lk w' l B kv dk nm (Grow LS w w') ((Scopy.hs known dk nm).use t s).1 dv' uv'∧Box w' g 24 C'∧Same4 C C' o∧Cells4 C' o (nc k nu ((Scopy.hs known dk nm).use t s).2 v)∧Fr w w' (fun i=>LS i∨i=g)
set_option maxRecDepth 100000 in
set_option maxHeartbeats 8000000 in
theorem use_any {w:World} {l B kb:Nat} {kv:Value} {dk:Int} {nm:List UInt8} {LS RS:Nat→Prop} {s:Scopy.St} {dv uv:Value} {g o M:Nat} {C:Array Value} {k nu:Int} {t:List UInt8} {v rv:Value} {known:List (List UInt8)} {r0:Scopy.Room} {rest:List Scopy.Room}
  (hl:Lk w l B kv dk nm LS s dv uv) (hu:Uses w LS RS g o M C k nu t v rv s.rooms) (hs:s.rooms=r0 :: rest) (he:s.e=0) (htl:Scopy.Tells known s) (hB:B≤w.heap.size) (hn:s.uses.length≤4000000) (hn2:s.decls.length≤4000000) (hk:KnAt w kb known kv) (hkb:∀i,LS i→kb≤i):
  Calls Tryz.prog 39 #[at_ l 0,rv,at_ g o] w (UseOut w l B kv known dk nm LS s g o C k nu t v):=by
 have HL:=hid hl
 have HT:=hid hu
 have HS:=hid hs
 have HTE:=hid htl
 have HK:=hid hk
 have HKB:=hid hkb
 have htop:s.top=r0:=by unfold Scopy.St.top;rw[hs];rfl
 have HTOP:=hid htop
 obtain⟨pb,hpb,HRV⟩:∃b,rv=at_ b 0∧Hid (∀(W:World),Fr w W (fun _=>False)→b<W.heap.size∧¬LS b∧W.cell? ⟨b,1,none⟩=some (.int .i64 (r0.deep:Int))):=by
  have h1:=hu.rooms
  rw[hs] at h1
  obtain⟨b,mb,c,out,h1,h2,h3,h4,h5,h6,h7⟩:=h1
  exact⟨b,h1,hid (fun W hW=>⟨(hW.box h2 (fun h=>h)).lt,hu.nR b h5,(hW.box h2 (fun h=>h)).cell 1⟩)⟩
 subst hpb
 have hU:=Scopy.use_cases (known:=known) (dk:=dk) (nm:=nm) t s
 have HU:=hid hU
 clear hU hl hs htl hk hkb htop
 have HRM:=hid hu.rooms
 clear hu
 go_enter Tryz.func39,Tryz.ntmps39
 go_upto_region 1 with fail
 go_loopg [6] s.rooms.length (fun gg s6 wr=>∃(rs:List Scopy.Room) (RS2:Nat→Prop) (x:Value),s6=x∧rs.length≤gg∧Hid (RoomsAt w M RS2 rs x)∧Hid (∀i,RS2 i→RS i)∧Hid (Fr w wr (fun _=>False))∧Hid (Scopy.find rs t=Scopy.find s.rooms t)∧Hid (∀r∈rs,r∈s.rooms))
 case atStart=>exact⟨s.rooms,RS,_,rfl,Nat.le_refl _,HRM,hid (fun i h=>h),hid (Fr.refl w _),hid rfl,hid (fun r h=>h)⟩
 case round=>
  obtain⟨rs,RS2,x,hx,hg,HR,HR2,HFW,HF,HM⟩:=hrel
  cases rs with
  | nil=>
   have h6:x= .pointer none:=HR.out
   subst h6
   subst hx
   have hf0:Scopy.find s.rooms t=none:=HF.out.symm
   have HF0:=hid hf0
   clear hf0 HR HR2 HF HM HRV
   have hE:=HU.out
   have HL1:=hid (HL.out.fr HFW.out fun g _ h=>h)
   have HN1:=hid (HFW.out.box HT.out.node (fun h=>h))
   have HF1:=hid (HFW.out.mono (G:=fun i=>LS i∨i=g) fun i _ h=>h.elim)
   have HB1:Hid (B≤wr.heap.size):=hid (Nat.le_trans hB HFW.out.size)
   have hKW:KnAt wr kb known kv:=HK.out.fr HFW.out (fun i _ h=>h)
   have HKN:Hid (∀n,Calls Tryz.prog 13 #[kv,.string (byt t)] (wr.drewN n) fun e w'=>e= .returned (.bool (known.contains t))∧w'=wr.drewN n):=hid (fun n=>known_any (hKW.fr (Fr.drewN wr n (fun _=>False)) (fun i _ h=>h)) t)
   clear hKW
   have l0:wr.cell? ⟨l,0,none⟩=some kv:=by have:=HL1.out.box.cell 0;simpa [lkc] using this
   have g2:wr.cell? ⟨g,o+2,none⟩=some (.string (byt t)):=by rw[HN1.out.cell];exact HT.out.cells 2 (by omega)
   have HU2:Hid ((known.contains t=true∧(Scopy.hs known dk nm).use t s=({s with uses:=s.uses++[(t, -1)]},t))∨(known.contains t=false∧(Scopy.hs known dk nm).use t s=({s with e:=5},t))):=by
    rcases HU.out with⟨h,_⟩ | ⟨_,q,h,_⟩ | ⟨_,_,h1,h2⟩ | ⟨_,_,h1,h2⟩
    ·exact absurd he h
    ·rw[HF0.out] at h;cases h
    ·exact .inl ⟨h1,h2⟩
    ·exact .inr ⟨h1,h2⟩
   clear HU HF0 HTE HS
   rcases HU2.out with⟨hkc,hus⟩ | ⟨hkc,hus⟩
   ·rw[hkc] at HKN
    have HE:=hid hus
    clear hkc hus HU2
    go_upto_region 10 with fail
    go_quiet ((go_at_call 13;first | exact Calls.quiet_of_same (HKN.out _) | exact quiet_more_same (HKN.out _)))
    obtain⟨V,hV⟩:∃V,wr.drewN nq=V:=⟨_,rfl⟩
    have HL2:Hid (Lk V l B kv dk nm LS s dv uv):=hid (hV ▸ HL1.out.fr (Fr.drewN wr nq (fun _=>False)) fun g _ h=>h)
    have HN2:Hid (Box V g 24 C):=hid (hV ▸ HN1.out)
    have HF2:Hid (Fr w V (fun i=>LS i∨i=g)):=hid (hV ▸ HF1.out.step (Fr.drewN wr nq (fun _=>False)) fun i _ h=>h.elim)
    have HB2:Hid (B≤V.heap.size):=hid (hV ▸ HB1.out)
    rw[hV]
    clear hV l0 g2 HL1 HN1 HF1 HB1 HKN
    obtain⟨A,cap,huv⟩:=own_slice HL2.out.uses
    obtain⟨n,hnn⟩:∃n,s.uses.length=n:=⟨_,rfl⟩
    have HN:=hid hnn
    rw[hnn] at huv hn
    subst huv
    have p0:=HL2.out.box.cell 2
    have p1:V.cell? ⟨g,o+2,none⟩=some (.string (byt t)):=by rw[HN2.out.cell];exact HT.out.cells 2 (by omega)
    simp[lkc] at p0
    obtain⟨i0,hi0,hz0,hz1,hz2⟩:=parts_of parts_use
    have h1:Hid (∀u∈(uc (t, -1)).toList,u.oneCell'=true):=fun u hu=>flat_one (f:=uc) uc_one [(t, -1)] u (by simpa [flat] using hu)
    have hBz2:B≤V.heap.size+1:=by have:=HB2.out;omega
    have hdB:Hid (∀q,(Value.slice A n cap).ownBlock=some q→B≤q∧q<V.heap.size):=hid (fun q hq=>HL2.out.uses.lt q hq)
    have hlB:=HL2.out.lB
    have hll:=HL2.out.box.lt
    have hgl:=HN2.out.lt
    have HOWN:Hid (V.ownsRow B 39 2 (.slice A n cap) n (flat uc s.uses)):=by
     have:=HL2.out.uses
     rw[HN.out] at this
     exact this
    clear hnn
    go_upto_region 12 with fail
    go_region_law (refine step_append_lies _ rfl (.tmp 94) (.tmp 100) 27 rfl B 39 i0 _ 2 24 Tryz.underlying27 hi0 hz0 hz1 hz2 rfl (by decide) (.slice A n cap) n (flat uc s.uses) (by simp[Act.eval,Act.put]) (by exact HOWN.out.alloc _) ⟨V.heap.size,0,none⟩ 1 1 (uc (t, -1)).toList (by simp[Act.eval,Act.put]) rfl (by exact World.news_of_block (Box.new V _ (uc (t, -1)))) h1.out (by omega) (by unfold maxLen;omega) (by omega) (by simpa using hBz2) (V.heap.size+1) (by simp) ?_;intro g8 cap8 w8 hown8 hgr8 hor8 hlt8;have hb8:Box w8 l 53 (lkc kv dv (.slice A n cap) s.e dk nm):=(Box.drew (Box.alloc HL2.out.box (.cells (uc (t, -1)) 39))).grown hgr8 (fun h=>by have:=hdB.out l h.symm;omega);have row8:=hb8.cell 2;have frow8:=hb8.frozen 2;simp[lkc] at row8)
    all_goals
     go_wp2_with fail
     refine bodyPost_end (results_none rfl _ _ _) rfl ?_
     unfold UseOut
     rw[HE.out]
     obtain⟨uv',q1,q2⟩:=HL2.out.app_use (t, -1) HN.out HB2.out hown8 hgr8 hor8 hlt8
     refine⟨rfl,dv,uv',C,q1.sets (fun i hi=>⟨hi.1,?_⟩) (fun i hi=>hi.1),q2.box HN2.out HT.out.ng,Same4.refl C o,HT.out.cells,HF2.out.step q2 fun i _ e=> .inl e⟩
     rcases hi.2 with e | e
     ·exact .inl e
     ·right;have:=HF2.out.size;omega
   ·rw[hkc] at HKN
    have HE:=hid hus
    clear hkc hus HU2
    go_upto_region 10 with fail
    go_quiet ((go_at_call 13;first | exact Calls.quiet_of_same (HKN.out _) | exact quiet_more_same (HKN.out _)))
    obtain⟨V,hV⟩:∃V,wr.drewN nq=V:=⟨_,rfl⟩
    have HL2:Hid (Lk V l B kv dk nm LS s dv uv):=hid (hV ▸ HL1.out.fr (Fr.drewN wr nq (fun _=>False)) fun g _ h=>h)
    have HN2:Hid (Box V g 24 C):=hid (hV ▸ HN1.out)
    have HF2:Hid (Fr w V (fun i=>LS i∨i=g)):=hid (hV ▸ HF1.out.step (Fr.drewN wr nq (fun _=>False)) fun i _ h=>h.elim)
    rw[hV]
    clear hV l0 g2 HL1 HN1 HF1 HB1 HKN
    have l3f:=HL2.out.box.frozen 3
    have l3c:=HL2.out.box.cell 3
    simp[lkc] at l3c
    go_wp2_with fail
    refine bodyPost_ret (results_none rfl _ _ _) rfl ?_
    unfold UseOut
    rw[HE.out]
    have hs3:=Fr.set V ⟨l,3,none⟩ (.int .i64 5)
    exact⟨rfl,dv,uv,C,(HL2.out.wrong 5).sets (fun i hi=>⟨by have:=HL2.out.lt i hi;simpa [World.setCell] using this,.inl hi⟩) (fun i hi=>hi.1),hs3.box HN2.out fun e2=>HT.out.ng (e2 ▸ HL2.out.lS),Same4.refl C o,HT.out.cells,HF2.out.step hs3 fun i _ e2=> .inl (e2 ▸ HL2.out.lS)⟩
  | cons r rs=>
   obtain⟨b,mb,c,out,h1,h2,h3,h4,h5,h6,h7⟩:=HR.out
   subst h1
   subst hx
   have hrb:=HFW.out.box h2 (fun h=>h)
   have hrm:=HFW.out.mapf h3 (fun h=>h)
   have HR7:=hid h7
   have c0:=hrb.cell 0
   have c2:=hrb.cell 2
   have g2:wr.cell? ⟨g,o+2,none⟩=some (.string (byt t)):=by rw[(HFW.out.box HT.out.node (fun h=>h)).cell];exact HT.out.cells 2 (by omega)
   simp[rmc] at c0 c2
   have htl2:t.length≤maxLen:=by have:=HT.out.tl;unfold maxLen;omega
   cases hf:r.f t with
   | none=>
    have hlk:∀n,(Instr.lookup 70 (.map (some mb)) (.string (byt t)) true).run Tryz.prog (wr.drewN n)= .ok (.tuple #[.int .i64 0,.bool false]) (wr.drewN n):=fun n=>by
     have:=(hrm.block (w':=wr.drewN n) rfl).look_ok Tryz.underlying70 (zero_nat (wr.drewN n)) t htl2
     rw[hf] at this
     exact this
    have HF2:Hid (Scopy.find rs t=Scopy.find s.rooms t):=hid (by
     have:=HF.out
     rw[Scopy.find,hf] at this
     exact this)
    clear hrb hrm h2 h3 h7 HR HF hf htl2
    go_upto_region 3 with fail
    go_quiet (fail)
    go_wp2_with fail
    go_roundg rs.length
    case measure=>simp at hg;omega
    case rel=>exact⟨rs,_,_,rfl,Nat.le_refl _,HR7,hid (fun i h=>HR2.out i h.1),hid (HFW.out.trans (Fr.drewN wr nq _)),HF2,hid (fun r hr=>HM.out r (by simp[hr]))⟩
   | some q=>
    have hlk:∀n,(Instr.lookup 70 (.map (some mb)) (.string (byt t)) true).run Tryz.prog (wr.drewN n)= .ok (.tuple #[.int .i64 (q:Int),.bool true]) (wr.drewN n):=fun n=>by
     have:=(hrm.block (w':=wr.drewN n) rfl).look_ok Tryz.underlying70 (zero_nat (wr.drewN n)) t htl2
     rw[hf] at this
     exact this
    obtain⟨d,hd,hdn⟩:=HTE.out.room r (HM.out r (by simp)) t q hf
    have HD:=hid hd
    have hus:(Scopy.hs known dk nm).use t s=({s with uses:=s.uses++[(t,(q:Int))],decls:=Scopy.mark s.decls q r0.deep},if (q:Int)=dk then nm else t):=by
     have hff:Scopy.find s.rooms t=some q:=by rw[←HF.out,Scopy.find,hf]
     rcases HU.out with⟨h,_⟩ | ⟨_,q2,h,h2⟩ | ⟨_,h,_⟩ | ⟨_,h,_⟩
     ·exact absurd he h
     ·rw[hff] at h
      injection h with h
      subst h
      rw[h2,HTOP.out]
     ·rw[hff] at h;cases h
     ·rw[hff] at h;cases h
    have HE:=hid hus
    have HL1:=hid (HL.out.fr HFW.out fun g _ h=>h)
    have HN1:=hid (HFW.out.box HT.out.node (fun h=>h))
    have HF1:=hid (HFW.out.mono (G:=fun i=>LS i∨i=g) fun i _ h=>h.elim)
    clear hrb hrm h2 h3 h7 HR HF hf htl2 hd hdn hus HTE HU HR2 HM HR7
    go_upto_region 3 with fail
    go_quiet (fail)
    go_upto_region 5 with fail
    have hfv:Fr wr (wr.drewN nq) (fun _=>False):=Fr.drewN wr nq _
    obtain⟨V,hV⟩:∃V,wr.drewN nq=V:=⟨_,rfl⟩
    rw[hV] at hfv ⊢
    have HL2:=hid (HL1.out.fr hfv fun g _ h=>h)
    have HN2:=hid (hfv.box HN1.out (fun h=>h))
    have HF2:=hid (HF1.out.step hfv fun i _ h=>h.elim)
    have HB2:Hid (B≤V.heap.size):=hid (by have:=HF1.out.size;have:=hfv.size;omega)
    obtain⟨hpb1,hpb2,hpb3⟩:=HRV.out V (HFW.out.trans hfv)
    have HPB:=hid hpb2
    have HPL:=hid hpb1
    have HPC:=hid hpb3
    clear hV hlk c0 c2 g2 HL1 HN1 HF1 hfv HFW HRV hpb1 hpb2 hpb3
    obtain⟨A,cap,huv⟩:=own_slice HL2.out.uses
    obtain⟨n,hnn⟩:∃n,s.uses.length=n:=⟨_,rfl⟩
    have HN:=hid hnn
    rw[hnn] at huv hn
    subst huv
    have p0:=HL2.out.box.cell 2
    have p1:V.cell? ⟨g,o+2,none⟩=some (.string (byt t)):=by rw[HN2.out.cell];exact HT.out.cells 2 (by omega)
    simp[lkc] at p0
    obtain⟨i0,hi0,hz0,hz1,hz2⟩:=parts_of parts_use
    have h1:Hid (∀u∈(uc (t,(q:Int))).toList,u.oneCell'=true):=fun u hu=>flat_one (f:=uc) uc_one [(t,(q:Int))] u (by simpa [flat] using hu)
    have hBz2:B≤V.heap.size+1:=by have:=HB2.out;omega
    have hdB:Hid (∀q,(Value.slice A n cap).ownBlock=some q→B≤q∧q<V.heap.size):=hid (fun q hq=>HL2.out.uses.lt q hq)
    have hlB:=HL2.out.lB
    have hll:=HL2.out.box.lt
    have hgl:=HN2.out.lt
    have HOWN:Hid (V.ownsRow B 39 2 (.slice A n cap) n (flat uc s.uses)):=by
     have:=HL2.out.uses
     rw[HN.out] at this
     exact this
    clear hnn
    go_cut [] from 29 to 44 (fun wx=>∃uv',Hid (Lk wx l B kv dk nm (Grow LS V wx) {s with uses:=s.uses++[(t,(q:Int))]} dv uv')∧Hid (Fr V wx LS))
    case first=>
     go_wp2_with fail
     go_region_law (refine step_append_lies _ rfl (.tmp 33) (.tmp 40) 27 rfl B 39 i0 _ 2 24 Tryz.underlying27 hi0 hz0 hz1 hz2 rfl (by decide) (.slice A n cap) n (flat uc s.uses) (by simp[Act.eval,Act.put]) (by exact HOWN.out.alloc _) ⟨V.heap.size,0,none⟩ 1 1 (uc (t,(q:Int))).toList (by simp[Act.eval,Act.put]) rfl (by exact World.news_of_block (Box.new V _ (uc (t,(q:Int))))) h1.out (by omega) (by unfold maxLen;omega) (by omega) (by simpa using hBz2) (V.heap.size+1) (by simp) ?_;intro g8 cap8 w8 hown8 hgr8 hor8 hlt8;have hb8:Box w8 l 53 (lkc kv dv (.slice A n cap) s.e dk nm):=(Box.drew (Box.alloc HL2.out.box (.cells (uc (t,(q:Int))) 39))).grown hgr8 (fun h=>by have:=hdB.out l h.symm;omega);have row8:=hb8.cell 2;have frow8:=hb8.frozen 2;simp[lkc] at row8)
     all_goals
      go_wp2_with fail
      go_meet
      exact HL2.out.app_use (t,(q:Int)) HN.out HB2.out hown8 hgr8 hor8 hlt8
    case rest=>
     obtain⟨uv',HL3,HF3⟩:=hcut
     obtain⟨A2,cap2,hdv0⟩:=own_slice HL3.out.decls
     obtain⟨n2,hn3⟩:∃n,s.decls.length=n:=⟨_,rfl⟩
     have HN3:=hid hn3
     have hdv:dv= .slice A2 n2 cap2:=by rw[hdv0, ←hn3]
     clear hdv0
     subst hdv
     have ho:wc.ownsRow B 36 4 (.slice A2 n2 cap2) n2 (flat dc s.decls):=by
      have:=HL3.out.decls
      have e:({s with uses:=s.uses++[(t,(q:Int))]}:Scopy.St).decls.length=n2:=hn3
      rw[e] at this
      exact this
     obtain⟨g0,hA2,hg0,hgl0,hnc,hqn,d2,d3,d3f,hset⟩:=decl_cells ho hn3 HD.out
     subst hA2
     have HSET:=hid hset
     have l1c:=HL3.out.box.cell 1
     simp[lkc] at l1c
     have pbc:wc.cell? ⟨pb,1,none⟩=some (.int .i64 (r0.deep:Int)):=by rw[World.cell?_of_block (HF3.out.block pb HPL.out HPB.out)];exact HPC.out
     have hqz:(q:Int)<(n2:Int):=by omega
     rw[hn3] at hn2
     have HFW3:=hid (HF2.out.step HF3.out fun i _ e=> .inl e)
     have HN4:=hid (HF3.out.box HN2.out HT.out.ng)
     have HGV:Hid (g<V.heap.size):=hid HN2.out.lt
     have HWV:Hid (w.heap.size≤V.heap.size):=hid HF2.out.size
     clear p0 p1 hi0 hz0 hz1 hz2 h1 hBz2 hdB hlB hll hgl HOWN HL2 HN2 HF2 HPB HPC HPL hn3 ho hset
     go_upto_region 6 with fail
     go_quiet (fail)
     have hfv:Fr wc (wc.drewN nq) (fun _=>False):=Fr.drewN wc nq _
     obtain⟨V2,hV2⟩:∃V,wc.drewN nq=V:=⟨_,rfl⟩
     rw[hV2] at hfv ⊢
     have HL5:=hid (HL3.out.fr hfv (fun g _ h=>h))
     have HF5:=hid (HFW3.out.step hfv fun i _ e=>e.elim)
     have HN5:=hid (hfv.box HN4.out (fun h=>h))
     have HZ5:Hid (V.heap.size≤V2.heap.size):=hid (Nat.le_trans HF3.out.size hfv.size)
     have HS5:Hid (V2.ownsRow B 36 4 (.slice (some ⟨g0,0,none⟩) n2 cap2) n2 (flat dc s.decls)):=by
      have:=HL5.out.decls
      have e:({s with uses:=s.uses++[(t,(q:Int))]}:Scopy.St).decls.length=n2:=HN3.out
      rw[e] at this
      exact this
     have HLg:Hid (Grow LS V wc g0):=hid (HL3.out.dS g0 rfl)
     clear hV2 hfv HL3 HF3 HFW3 HN4 HSET l1c pbc d2 d3 d3f
     obtain⟨g1,hg1,_,hgl1,_,_,e2,e3,e3f,hset⟩:=decl_cells HS5.out HN3.out HD.out
     have hg1:g1=g0:=by injection hg1 with h;injection h with h _ _;exact h.symm
     subst hg1
     have HSET:=hid hset
     have l1c:=HL5.out.box.cell 1
     simp[lkc] at l1c
     clear hset
     go_upto_if 56 with fail
     go_cut [] from 56 to 64 (fun wx=>Hid (Lk wx l B kv dk nm (Grow LS V wx) {s with uses:=s.uses++[(t,(q:Int))],decls:=Scopy.mark s.decls q r0.deep} (.slice (some ⟨g1,0,none⟩) n2 cap2) uv')∧Hid (Fr w wx (fun i=>LS i∨i=g))∧Hid (Box wx g 24 C)∧Hid (V.heap.size≤wx.heap.size))
     case first=>
      by_cases hdp:d.deep<r0.deep
      ·have hdz:(d.deep:Int)<(r0.deep:Int):=by omega
       have hdd:decide ((d.deep:Int)<(r0.deep:Int))=true:=decide_eq_true hdz
       have HM2:=hid (mark_yes HD.out hdp)
       clear hdp
       go_wp2_with fail
       go_meet
       have hL6:=HL5.out.caught rfl HN3.out (by rw[List.length_set];exact HN3.out) hg0 HSET.out
       have fs:=Fr.set V2 ⟨g1,q * 4+3,none⟩ (.bool true)
       have hng:g1≠g:=by
        rintro rfl
        rcases HLg.out.2 with e | e
        ·exact HT.out.ng e
        ·have:=HGV.out;omega
       rw[HM2.out]
       refine⟨hL6.sets (fun i hi=>⟨by have:=HL5.out.lt i hi;have:=fs.size;omega,hi.2⟩) (fun i hi=>hi.1),hid (HF5.out.step fs fun i hi e=> ?_),fs.box HN5.out (fun e=>hng e.symm),Nat.le_trans HZ5.out fs.size⟩
       have e:i=g1:=e
       subst e
       rcases HLg.out.2 with e | e
       ·exact .inl e
       ·have:=HWV.out;omega
      ·have hdz:¬(d.deep:Int)<(r0.deep:Int):=by omega
       have hdd:decide ((d.deep:Int)<(r0.deep:Int))=false:=decide_eq_false hdz
       have HM2:=hid (mark_no HD.out hdp)
       clear hdp
       go_wp2_with fail
       go_meet
       rw[HM2.out]
       exact⟨HL5.out.sets (fun i hi=>⟨HL5.out.lt i hi,hi.2⟩) (fun i hi=>hi.1),HF5,HN5,HZ5⟩
     case rest=>
      obtain⟨HL7,HF7,HN7,HZ7⟩:=hcut
      clear HSET HLg HS5 HZ5 HN5 HF5 HL5 l1c e2 e3 e3f hqz
      have HG7:Hid (∀(W:World),wc.heap.size≤W.heap.size→∀i,Grow LS V wc i→Grow LS w W i):=hid fun W hW i hi=>by
       have h2:=HWV.out
       obtain⟨h3,h4⟩:=hi
       refine⟨by omega,?_⟩
       rcases h4 with h4 | h4
       ·exact .inl h4
       ·right;omega
      have l4c:=HL7.out.box.cell 4
      have l5c:=HL7.out.box.cell 5
      simp[lkc] at l4c l5c
      have ngf:=HN7.out.frozen (o+2)
      have ngc:wc.cell? ⟨g,o+2,none⟩=some (.string (byt t)):=by rw[HN7.out.cell];exact HT.out.cells 2 (by omega)
      by_cases hk:(q:Int)=dk
      ·have q1:((q:Int)==dk)=true:=by simp[hk]
       have q2:decide ((q:Int)=dk)=true:=by simp[hk]
       clear hk
       go_wp2_with fail
       refine bodyPost_ret (results_none rfl _ _ _) rfl ?_
       unfold UseOut
       rw[HE.out]
       have fs:=Fr.set wc ⟨g,o+2,none⟩ (.string (byt nm))
       have hif:(if (q:Int)=dk then nm else t)=nm:=if_pos (by simpa using q2)
       have hng:¬Grow LS V wc g:=fun h=>by
        rcases h.2 with e | e
        ·exact HT.out.ng e
        ·have:=HGV.out;omega
       refine⟨rfl,_,uv',C.setIfInBounds (o+2) (.string (byt nm)),(HL7.out.fr fs fun i hi e=>hng ((show i=g from e) ▸ hi)).sets (fun i hi=>HG7.out _ fs.size i hi) (fun i hi=>hi.1),HN7.out.set (o+2) _,Same4.text C o _,by simp only[hif];exact HT.out.cells.text,HF7.out.step fs fun i _ e=> .inr e⟩
      ·have q1:((q:Int)==dk)=false:=by simp[hk]
       have q2:decide ((q:Int)=dk)=false:=by simp[hk]
       clear hk
       go_wp2_with fail
       refine bodyPost_ret (results_none rfl _ _ _) rfl ?_
       unfold UseOut
       rw[HE.out]
       have hif:(if (q:Int)=dk then nm else t)=t:=if_neg (by simpa using q2)
       exact⟨rfl,_,uv',C,HL7.out.sets (fun i hi=>HG7.out _ (Nat.le_refl _) i hi) (fun i hi=>hi.1),HN7.out,Same4.refl C o,by simp only[hif];exact HT.out.cells,HF7.out⟩
end Go.Proofs.YtflmjbmdmoifhaaGreatDoor
