/-
  Texts that the law leans on: PmW, ParJ, Max, JlA, JlS, JlB, JlC, JlD, JlE, JlF. Conditions: as each says.
-/
import Derived.Test.YtflmjbmdmoifhaaGreatDoorKAl
import Derived.Test.YtflmjbmdmoifhaaGreatDoorKAb
import Derived.Test.YtflmjbmdmoifhaaGreatDoorKAc
import Derived.WalkLawsBesides
import Derived.WalkKit
import Derived.WalkSpells
import Derived.Deep.QuietTactic
import Derived.BigQuiet
import Derived.Below
import Derived.Lib.Hide
import Derived.Handy
import Derived.Test.YtflmjbmdmoifhaaGreatDoorKAa
import Derived.Test.YtflmjbmdmoifhaaGreatDoorShelf
import Derived.WalkSmall
import Derived.Lib.Space
import Derived.Deep.LoopGhost
import Derived.Outline
set_option linter.unusedSimpArgs false
set_option linter.unusedVariables false
namespace Go.Proofs.YtflmjbmdmoifhaaGreatDoor
open Go.Lib (hid)
open Go.RowKit
theorem PSt.far {w w1:World} {b r:Nat} {ts:List KT} {A:Option Addr} {c k:Nat} {fn lp:Bool} (h:PSt w b ts A c k fn lp) (hu:Upd w w1 r) (hb:b≠r) (hA:0<ts.length→∀g o,A=some ⟨g,o,none⟩→g≠r):PSt w1 b ts A c k fn lp:=by
 refine⟨Box.grown h.box hu (by intro e;injection e with e;exact hb e),?_,h.kle,h.ne,h.len⟩
 obtain⟨A',cap,e,h1,h2,h3⟩:=h.ks
 refine⟨A',cap,e,h1,h2,fun hn=> ?_⟩
 obtain⟨g,o,rfl,hg,hr⟩:=h3 hn
 injection e with e _ _
 have hz:=hu.size
 refine⟨g,o,rfl,by omega,fun i u hi=> ?_⟩
 rw[World.cell?_of_block (hu.block g hg (by intro x;injection x with x;exact hA hn g o e x))]
 exact hr i u hi
structure Cello (P:Program) (w:World) (tmps:Array Value) (p:Tmp) (ty:TypeId) (v:Value):Prop where
 out:∃a,tmps.getD p undef= .pointer (some a)∧(loadVar ty a).run P w= .ok v w
theorem Cello.mk' {w:World} {tmps:Array Value} {p:Tmp} (g:Nat) (t:Bool) (hp:tmps.getD p undef= .pointer (some ⟨g,0,none⟩)) (hg:Box w g 4 #[.bool t]):Cello Tryz.prog w tmps p 4 (.bool t):=⟨⟨_,hp,by
 have:=hg.cell 0
 simp at this
 simp[go_sem,this]⟩⟩
theorem results_bc {P:Program} {fn:Func} {tmps:Array Value} {w:World} {p1 p2:Tmp} {ty1 ty2:TypeId} {c1:Array Value} {v2:Value} (h:fn.results= #[.cell p1 ty1,.cell p2 ty2]) (h1:Back P w tmps p1 ty1 c1) (h2:Cello P w tmps p2 ty2 v2):(results fn tmps).run P w= .ok (.tuple #[.agg c1,v2]) w:=by
 obtain⟨a1,e1,r1⟩:=h1.out
 obtain⟨a2,e2,r2⟩:=h2.out
 simp only[Array.getD_eq_getD_getElem?] at e1 e2
 simp only[results,h]
 simp[Sem.run_bind,Result.andThen,e1,e2,asAddr,r1,r2]
theorem leaves_same {P:Program} {fn:Func} {t1 t2:Array Value} {R:Ending→World→Prop} (he:∀w,(results fn t1).run P w=(results fn t2).run P w):∀(ds:List Deferred) (u:FrameMode) (w:World),Leaves P fn t1 R ds u w→Leaves P fn t2 R ds u w
 | [],.returning,w,h=>by obtain⟨v,h1,h2⟩:=h;exact⟨v,(he w).symm.trans h1,h2⟩
 | [],.panicking _,w,h=>h
 | [],.run,_,h=>h
 | d :: ds,u,w,h=>by
  obtain⟨h1,fv,cap,f,args,h2,h3,h4⟩:=h
  refine⟨h1,fv,cap,f,args,h2,h3,h4.mono ?_⟩
  intro e u' w' h5
  cases e with
  | returned v=>exact leaves_same he ds _ _ h5
  | panicked c=>exact leaves_same he ds _ _ h5
  | outgrown=>exact h5
theorem keep_door {R:Ending→World→Prop} {c:List PanicEntry} {a:Act} {w:World} {i:Nat} {v:Value} (h2:i≠2) (h3:i≠3) (h:bodyPostD Tryz.prog Tryz.f30 R (.panic c) (a.put (some i) v) w):bodyPostD Tryz.prog Tryz.f30 R (.panic c) a w:=by
 refine leaves_same (fun w=> ?_) _ _ _ h
 have e2:(a.tmps.setIfInBounds i v)[2]? =a.tmps[2]? :=Array.getElem?_setIfInBounds_ne h2
 have e3:(a.tmps.setIfInBounds i v)[3]? =a.tmps[3]? :=Array.getElem?_setIfInBounds_ne h3
 simp[results,Tryz.results30,Act.put,e2,e3]
theorem fuel_left (ts:List KT) (k:Nat):Pars.fuel (left ts k)=20 * (ts.length - k)+20:=by unfold Pars.fuel;rw[left_len]
theorem top_bad {ts:List KT} {k m:Nat} {acc:List Pars.Node} (hk:k<ts.length) (h:Pars.run (Pars.fuel (left ts k)) .statement false false (left ts k)=none):Pars.top (m+1) acc (left ts k)=none:=by
 rw[left_cons (List.getElem?_eq_getElem hk)] at h ⊢
 simp only[Pars.top,h]
theorem top_good {ts:List KT} {k k2 m:Nat} {acc:List Pars.Node} {x:Pars.Node} (hk:k<ts.length) (h:Pars.run (Pars.fuel (left ts k)) .statement false false (left ts k)=some (x,left ts k2)):Pars.top (m+1) acc (left ts k)=Pars.top m (acc++[x]) (left ts k2):=by
 rw[left_cons (List.getElem?_eq_getElem hk)] at h ⊢
 simp only[Pars.top,h]
theorem tree_none {ts:List KT} (h:Pars.top ts.length [] (toks ts)=none):Pars.tree (toks ts)=none:=by unfold Pars.tree;rw[show (toks ts).length=ts.length by simp[toks],h];rfl
def ReadOut (w:World) (ts:List KT) (e:Ending) (w':World):Prop:=
 (∃l cs,Pars.tree (toks ts)=some (.mk 30 0 [] l)∧e= .returned (.tuple #[.agg cs,.bool true])∧NodeAt w' (fun g=>w.heap.size≤g) (.mk 30 0 [] l) cs∧l.length≤ts.length∧Below w.heap.size w w')∨
 (Pars.tree (toks ts)=none∧e= .returned (.tuple #[.agg #[.int .i64 0,.int .i64 0,.string ⟨#[]⟩,.slice none 0 0],.bool false])∧Below w.heap.size w w')
set_option maxRecDepth 100000 in
set_option maxHeartbeats 4000000 in
theorem read_any (w:World) (ts:List KT) (A:Option Addr) (c:Nat) (hks:KRd w ts (.slice A ts.length c)) (hlen:ts.length≤1000) (hA:∀g o,A=some ⟨g,o,none⟩→g<w.heap.size):
  Calls Tryz.prog 30 #[.slice A ts.length c] w (ReadOut w ts):=by
 have hmf:∀(fn:Fn) (first cap:Array Value) (w:World),(Instr.makeFunc fn first cap).run Tryz.prog w= .ok (.func fn first cap) w:=fun _ _ _ _=>rfl
 have HKS:=hid hks
 have HA0:=hid hA
 clear hks hA
 go_enter_defers Tryz.func30,Tryz.ntmps30
 go_upto_region 3 with fail
 refine gen_world (F:=fun W=>Box W w.heap.size 24 #[.int .i64 0,.int .i64 0,.string ⟨#[]⟩,.slice none 0 0]∧Box W (w.heap.size+1) 4 #[.bool false]∧Box W (w.heap.size+1+1) 108 (pc (.slice A ts.length c) 0 false false)∧Below w.heap.size w W) ⟨((Box.new w _ _).alloc _).alloc _,(new2 w _ _ _).alloc _,new3 w _ _ _ _,((below1 w _).alloc (by simp) _).alloc (by simp;omega) _⟩ ?_
 rintro W0 ⟨n0,k0,p0,hU⟩
 obtain⟨i0,hi0,hi1,hi2,hi3⟩:=info_parts parts_nod
 obtain⟨oa,hnb⟩:∃q,w.heap.size=q:=⟨_,rfl⟩
 obtain⟨B,hBe⟩:∃q,W0.heap.size=q:=⟨_,rfl⟩
 have hwB:w.heap.size≤B:=by have:=hU.size;omega
 have HNB:=hid hnb
 rw[hnb] at n0 k0 p0 ⊢
 have hpB:oa+1+1<B:=by have:=p0.lt;omega
 have hP:PSt W0 (oa+1+1) ts A c 0 false false:=⟨p0,Rd.below HKS.out hU,Nat.zero_le _,fun g o e=>by have:=HA0.out g o e;omega,hlen⟩
 have HA:Hid (0<ts.length→∀g o,A=some ⟨g,o,none⟩→g<w.heap.size):=hid (fun _=>HA0.out)
 have hBw:B≤W0.heap.size:=Nat.le_of_eq hBe.symm
 have hwoa:w.heap.size≤oa:=by omega
 obtain⟨b,hb⟩:∃q,oa+1+1=q:=⟨_,rfl⟩
 have hbB:b<B:=by omega
 have hkB:oa+1<B:=by omega
 have hoab:oa<b:=by omega
 have hkab:oa+1<b:=by omega
 rw[hb] at hP p0 ⊢
 have OB:=hid n0
 have KB:=hid k0
 have HP:=hid hP
 have HU:=hid hU
 have HT:Hid (Pars.top ts.length [] (toks ts)=Pars.top ts.length [] (left ts 0)):=hid rfl
 clear hnb hBe hb hpB hP p0 n0 k0 hU HKS HA0
 have c0:=OB.out.cell 0
 have f0:W0.frozen? ⟨oa,0,none⟩=false:=OB.out.frozen 0
 simp at c0
 go_wp2
 refine gen_world (F:=fun W=>Box W oa 24 (nc 30 0 [] (.slice none 0 0))∧Upd W0 W oa) ⟨OB.out.set 0 (.int .i64 30),(Upd.refl _ _).set (.inl rfl) _⟩ ?_
 rintro W1 ⟨hx,hu⟩
 have hb9:Below w.heap.size W0 W1:=hu.own hwoa (by have:=HU.out.size;omega)
 replace OB:=hid hx
 replace KB:=bg KB hu
 replace HP:=hid (HP.out.far hu (by omega) (fun hn g o e=>by have:=HA.out hn g o e;omega))
 replace HU:=hid (HU.out.trans hb9)
 replace hBw:B≤W1.heap.size:=Nat.le_trans hBw hu.size
 have KOF:=hid (KO.nil W1 B oa)
 clear hx hu hb9 c0 f0
 go_loopg [13] (ts.length) (fun gg s13 wr=>∃(k' m:Nat) (acc:List Pars.Node) (kv:Value),ts.length - k'≤gg∧k'≤ts.length∧acc.length≤k'∧ts.length - k'≤m∧B≤wr.heap.size∧Hid (Box wr oa 24 (nc 30 0 [] kv))∧Hid (Box wr (oa+1) 4 #[.bool false])∧Hid (KO wr B oa acc kv)∧Hid (PSt wr b ts A c k' false false)∧Hid (Below w.heap.size w wr)∧Hid (Pars.top ts.length [] (toks ts)=Pars.top m acc (left ts k')))
 case atStart=>exact⟨0,ts.length,[],_,by omega,Nat.zero_le _,Nat.le_refl _,by omega,hBw,OB,KB,KOF,HP,HU,HT⟩
 case round=>
  clear OB KB KOF HP HU HT hBw
  obtain⟨k',m,acc,kv,hg,hkl,hal,hmm,hBw,OB,KB,KOF,HP,HU,HT⟩:=hrel
  obtain⟨KA,kc,rfl⟩:=kv_slice KOF.out
  have kb:=HP.out.box.cell 1
  simp[pc] at kb
  by_cases hkt:k'<ts.length
  ·have hkz:(k':Int)<(ts.length:Int):=by omega
   have hkd:decide ((k':Int)<(ts.length:Int))=true:=decide_eq_true hkz
   obtain⟨m',rfl⟩:∃m',m=m'+1:=⟨m - 1,by omega⟩
   go_upto_region 5 with fail
   clear kb hkz hkd
   refine wp_region_until 6 (fun w'=>Box w' oa 24 (nc 30 0 [] (Value.slice KA acc.length kc))) (by kernel_rfl) OB.out.drew (fun hHeld=> ?_)
   obtain⟨wd,hwd⟩:∃wd,wr.drew=wd:=⟨_,rfl⟩
   have hb:Below wr.heap.size wr wd:=hwd ▸ (Below.refl _ wr).drew
   (try rw[hwd] at hHeld)
   (try rw[hwd])
   clear hwd hHeld
   replace OB:=bl OB hb
   replace KOF:=hid (KOF.out.below hb)
   replace HP:=hid (HP.out.below hb)
   replace HU:=hid (HU.out.trans (hb.mono (by have:=HU.out.size;omega)))
   replace KB:=bl KB hb
   replace hBw:=Nat.le_trans hBw hb.size
   clear hb
   refine wpAnyU_takeY (i:=0) (v:= ?_) (by decide) rfl (by kernel_rfl) (by intro _ _ _ h;exact keep_door (i:=17) (by decide) (by decide) h) (by kernel_rfl) (by kernel_rfl) (Or.inl ⟨by kernel_rfl,?_⟩) (.inr OB.out) ?_
   rotate_left
   ·intro w hSw
    go_simp
    try (with_reducible rfl)
   (try simp only[Act.put,sq])
   refine wpAnyU_take (i:=1) (v:=(Value.slice KA acc.length kc)) rfl (by kernel_rfl) (by kernel_rfl) (by kernel_rfl) (by kernel_rfl) (by kernel_rfl) (by intro _ _ _ h;exact keep_door (i:=18) (by decide) (by decide) h) (Or.inl ⟨by kernel_rfl,?_⟩) OB.out ?_
   ·intro w hSw
    have c3:=hSw.cell 3
    simp[nc] at c3
    go_simp
   (try simp only[Act.put,sq])
   refine wpAnyU_takeY (i:=2) (v:= ?_) (by decide) rfl (by kernel_rfl) (by intro _ _ _ h;exact keep_door (i:=19) (by decide) (by decide) h) (by kernel_rfl) (by kernel_rfl) (Or.inl ⟨by kernel_rfl,?_⟩) (.inr OB.out) ?_
   rotate_left
   ·intro w hSw
    go_simp
    try (with_reducible rfl)
   (try simp only[Act.put,sq])
   refine wpAnyU_takeY (i:=4) (v:= ?_) (by decide) rfl (by kernel_rfl) (by intro _ _ _ h;exact keep_door (i:=21) (by decide) (by decide) h) (by kernel_rfl) (by kernel_rfl) (Or.inl ⟨by kernel_rfl,?_⟩) (.inr OB.out) ?_
   rotate_left
   ·intro w hSw
    go_simp
    try (with_reducible rfl)
   (try simp only[Act.put,sq])
   refine wpAnyU_ready (rs:=[3,5]) (by kernel_rfl) (by simp) ?_
   refine AllReadyU.cons rfl (fun K hK=> ?_) (AllReadyU.cons rfl (fun K hK=> ?_) AllReadyU.nil)
   focus
    go_simp
    refine ((all_any (Pars.fuel (left ts k'))).stmt HP.out (by rw[fuel_left];omega)).mono ?_
    rintro e w5 (⟨x1,k2,cs1,hr,hk1,hk2,rfl,hn,hx,hu⟩ | ⟨hr,rfl,hu⟩)
    rotate_left
    ·have hnb:=bg OB hu
     have hkb:=bg KB hu
     have hbel:=hid (HU.out.trans (hu.own (by omega) (by have:=HU.out.size;omega)))
     have HN0:Hid (Pars.tree (toks ts)=none):=hid (tree_none (HT.out.trans (top_bad hkt hr)))
     clear hr hu HT
     refine leaves_cons (f:=52) (args:= #[.pointer (some ⟨oa,0,none⟩),.pointer (some ⟨oa+1,0,none⟩)]) (by simp) (by simp[go_sem]) ?_
     refine (catch_slip oa (oa+1) _ _ rfl false hnb.out hkb.out (by omega)).mono ?_
     rintro e u' w'' ⟨rfl,rfl,hx2,hk2,hb2⟩
     exact⟨_,results_bc rfl (Back.mk' oa 24 _ rfl hx2 Tryz.underlying24 rfl info_nod) (.mk' (oa+1) false rfl hk2),.inr ⟨HN0.out,rfl,hbel.out.trans (hb2 _ (by omega) (by omega))⟩⟩
    have hlt1:=got_lt hr rfl
    replace HT:=hid (HT.out.trans (top_good hkt hr))
    have hrl:=KOF.out.row
    have HN1:Hid (NodeAt w5 (fun g=>B≤g∧g≠oa∧(Value.slice KA acc.length kc).ownBlock≠some g) x1 cs1):=hid (hn.weak (fun g hg=>⟨by omega,by omega,fun e=>by obtain⟨_,ho,_⟩:=hrl;have:=(ho.lt g e).2;omega⟩))
    clear hrl
    replace OB:=bg OB hu
    replace KB:=bg KB hu
    replace KOF:=hid (KOF.out.upd hu hbB)
    replace HP:=hid (HP.out.upd hx hu (by omega))
    replace HU:=hid (HU.out.trans (hu.own (by omega) (by have:=HU.out.size;omega)))
    replace hBw:=Nat.le_trans hBw hu.size
    clear hr hn hx hu
    obtain⟨v1,hlit,hvo⟩:=NodeAt.lit HN1.out
    rw[hlit] at HN1 ⊢
    have HVO1:=hid hvo
    clear hlit hvo
    go_wp2_with fail
    refine hK.out _ _ (.inr OB.out) (fun hHeld=> ?_)
    clear hK hHeld K
    (try simp only[Act.put,sq])
    refine rdU 5 rfl fun K hK=> ?_
    go_simp
    have bxB:=Box.new w5 24 #[.int .i64 0,.int .i64 0,.string ⟨#[]⟩,.slice none 0 0]
    have hb:Below w5.heap.size w5 (w5.alloc (.cells #[.int .i64 0,.int .i64 0,.string ⟨#[]⟩,.slice none 0 0] 24)):=below1 w5 _
    obtain⟨wc,hwb⟩:∃wb,(w5.alloc (.cells #[.int .i64 0,.int .i64 0,.string ⟨#[]⟩,.slice none 0 0] 24))=wb:=⟨_,rfl⟩
    rw[hwb] at bxB hb
    rw[hwb]
    clear hwb
    have BXB:=hid bxB
    obtain⟨zb,hzb⟩:∃zb,w5.heap.size=zb:=⟨_,rfl⟩
    rw[hzb] at BXB ⊢
    have hzbB:B≤zb:=hzb ▸ hBw
    replace OB:=bl OB hb
    replace KOF:=hid (KOF.out.below hb)
    replace HP:=hid (HP.out.below hb)
    replace HN1:=hid (HN1.out.below hb)
    replace HU:=hid (HU.out.trans (hb.mono (by have:=HU.out.size;omega)))
    replace KB:=bl KB hb
    replace hBw:=Nat.le_trans hBw hb.size
    refine hK.out _ _ (.inr OB.out) (fun hHeld=> ?_)
    clear hK hHeld K
    (try simp only[Act.put,sq])
    clear hb bxB hzb
   rotate_left
   focus
    go_simp
    have bxB:=Box.new wd 24 #[.int .i64 0,.int .i64 0,.string ⟨#[]⟩,.slice none 0 0]
    have hb:Below wd.heap.size wd (wd.alloc (.cells #[.int .i64 0,.int .i64 0,.string ⟨#[]⟩,.slice none 0 0] 24)):=below1 wd _
    obtain⟨w5,hwb⟩:∃wb,(wd.alloc (.cells #[.int .i64 0,.int .i64 0,.string ⟨#[]⟩,.slice none 0 0] 24))=wb:=⟨_,rfl⟩
    rw[hwb] at bxB hb
    rw[hwb]
    clear hwb
    have BXB:=hid bxB
    obtain⟨zb,hzb⟩:∃zb,wd.heap.size=zb:=⟨_,rfl⟩
    rw[hzb] at BXB ⊢
    have hzbB:B≤zb:=hzb ▸ hBw
    replace OB:=bl OB hb
    replace KOF:=hid (KOF.out.below hb)
    replace HP:=hid (HP.out.below hb)
    replace HU:=hid (HU.out.trans (hb.mono (by have:=HU.out.size;omega)))
    replace KB:=bl KB hb
    replace hBw:=Nat.le_trans hBw hb.size
    refine hK.out _ _ (.inr OB.out) (fun hHeld=> ?_)
    clear hK hHeld K
    (try simp only[Act.put,sq])
    clear hb bxB hzb
    refine rdU 3 rfl fun K hK=> ?_
    go_simp
    refine ((all_any (Pars.fuel (left ts k'))).stmt HP.out (by rw[fuel_left];omega)).mono ?_
    rintro e wc (⟨x1,k2,cs1,hr,hk1,hk2,rfl,hn,hx,hu⟩ | ⟨hr,rfl,hu⟩)
    rotate_left
    ·have hnb:=bg OB hu
     have hkb:=bg KB hu
     have hbel:=hid (HU.out.trans (hu.own (by omega) (by have:=HU.out.size;omega)))
     have HN0:Hid (Pars.tree (toks ts)=none):=hid (tree_none (HT.out.trans (top_bad hkt hr)))
     clear hr hu HT
     refine leaves_cons (f:=52) (args:= #[.pointer (some ⟨oa,0,none⟩),.pointer (some ⟨oa+1,0,none⟩)]) (by simp) (by simp[go_sem]) ?_
     refine (catch_slip oa (oa+1) _ _ rfl false hnb.out hkb.out (by omega)).mono ?_
     rintro e u' w'' ⟨rfl,rfl,hx2,hk2,hb2⟩
     exact⟨_,results_bc rfl (Back.mk' oa 24 _ rfl hx2 Tryz.underlying24 rfl info_nod) (.mk' (oa+1) false rfl hk2),.inr ⟨HN0.out,rfl,hbel.out.trans (hb2 _ (by omega) (by omega))⟩⟩
    have hlt1:=got_lt hr rfl
    replace HT:=hid (HT.out.trans (top_good hkt hr))
    have hrl:=KOF.out.row
    have HN1:Hid (NodeAt wc (fun g=>B≤g∧g≠oa∧(Value.slice KA acc.length kc).ownBlock≠some g) x1 cs1):=hid (hn.weak (fun g hg=>⟨by omega,by omega,fun e=>by obtain⟨_,ho,_⟩:=hrl;have:=(ho.lt g e).2;omega⟩))
    clear hrl
    replace OB:=bg OB hu
    replace KB:=bg KB hu
    replace KOF:=hid (KOF.out.upd hu hbB)
    replace HP:=hid (HP.out.upd hx hu (by omega))
    replace BXB:=bg BXB hu
    replace HU:=hid (HU.out.trans (hu.own (by omega) (by have:=HU.out.size;omega)))
    replace hBw:=Nat.le_trans hBw hu.size
    clear hr hn hx hu
    obtain⟨v1,hlit,hvo⟩:=NodeAt.lit HN1.out
    rw[hlit] at HN1 ⊢
    have HVO1:=hid hvo
    clear hlit hvo
    go_wp2_with fail
    refine hK.out _ _ (.inr OB.out) (fun hHeld=> ?_)
    clear hK hHeld K
    (try simp only[Act.put,sq])
   all_goals
    refine rdU 6 rfl fun K hK=> ?_
    obtain⟨css,hrow,hkn⟩:=KOF.out.row
    refine step_append_lies _ rfl (.tmp 18) (.tmp 22) 22 rfl B 24 i0 _ 4 56 Tryz.underlying22 hi0 hi1 hi2 hi3 rfl (by decide) (Value.slice KA acc.length kc) acc.length (flatA css) (by simp[Act.eval,Act.put]) hrow ⟨zb,0,none⟩ 1 1 [.int .i64 0,.int .i64 0,.string ⟨#[]⟩,.slice none 0 0] (by simp[Act.eval,Act.put]) rfl (by exact World.news_of_block BXB.out) zrow_one (by omega) (by unfold maxLen;omega) (by omega) hBw wc.heap.size rfl ?_
    intro g7 cap7 w7 hown7 hgr7 hor7 hlt7
    have hbB7:Below B wc w7:=below_grown hgr7 hBw (fun q hq=>(hrow.lt q hq).1)
    have hob:=OB.out.lt
    have KO7:=KOF.out.snoc (x:= .mk 0 0 [] []) (cs:= #[.int .i64 0,.int .i64 0,.string ⟨#[]⟩,.slice none 0 0]) css hrow hkn (NodeAt.leaf _ _ 0 0 []) hown7 hgr7 hor7 hob
    replace HN1:=hid (NodeAt.room HN1.out hgr7 hor7)
    have hoa7:g7≠oa:=by
     rcases hor7 with e | e
     ·intro e2;exact KOF.out.ne (by rw[e,e2])
     ·omega
    have hg7B:B≤g7:=by
     rcases hor7 with e | e
     ·exact (hrow.lt _ e).1
     ·omega
    replace OB:=hid (Box.grown OB.out hgr7 (fun e=>KOF.out.ne e.symm))
    replace HP:=hid (HP.out.belowB hbB7 hbB (fun hn g o e=>by have:=HA.out hn g o e;omega))
    replace HU:=hid (HU.out.trans (hbB7.mono hwB))
    replace KB:=hid ((hbB7.block _ hkB).trans KB.out)
    replace hBw:=Nat.le_trans hBw hbB7.size
    replace KOF:=hid KO7
    refine hK.out _ _ (.inl rfl) (fun hHeld=> ?_)
    clear hK hHeld K
    (try simp only[Act.put,sq])
    clear hown7 hgr7 hor7 hlt7 hbB7 hrow hkn hob KO7
    have n1:(acc.length:Int)<((acc.length+1:Nat):Int):=by omega
    have n2:decide ((acc.length:Int)<((acc.length+1:Nat):Int))=true:=decide_eq_true n1
    have n3:acc.length<acc.length+1:=by omega
    refine wpAnyU_takeY (i:=7) (v:= .pointer (some ⟨g7,acc.length * 4,none⟩)) (by decide) rfl (by kernel_rfl) (by intro _ _ _ h;exact keep_door (i:=24) (by decide) (by decide) h) (by kernel_rfl) (by kernel_rfl) (Or.inl ⟨by kernel_rfl,?_⟩) (.inl rfl) ?_
    ·intro w hSw
     go_simp
     try (intro hx;exfalso;omega)
    (try simp only[Act.put,sq])
    clear n1 n2 n3
    refine wpAnyU_takeY (i:=9) (v:= ?_) (by decide) rfl (by kernel_rfl) (by intro _ _ _ h;exact keep_door (i:=25) (by decide) (by decide) h) (by kernel_rfl) (by kernel_rfl) (Or.inl ⟨by kernel_rfl,?_⟩) (.inl rfl) ?_
    rotate_left
    ·intro w hSw
     go_simp
     try (with_reducible rfl)
    (try simp only[Act.put,sq])
    refine wpAnyU_ready (rs:=[8,10]) (by kernel_rfl) (by simp) ?_
    refine AllReadyU.cons rfl (fun K hK=> ?_) (AllReadyU.cons rfl (fun K hK=> ?_) AllReadyU.nil)
    focus
     obtain⟨cur,hcur,hcl,hKO⟩:=KOF.out.last HN1.out
     have HKO:=hid hKO
     refine step_store_midbox rfl 24 (.tmp 24) (.tmp 20) rfl g7 (acc.length * 4) #[.int .i64 x1.kind,.int .i64 x1.num,.string (byt x1.text),v1] (by simp[Act.eval,Act.put]) (by simp[Act.eval,Act.put]) cur 24 hcur hcl info_nod (nc_one _ _ _ HVO1.out) ?_
     intro w8 hx8 hu8 hz8
     have hb8:Below B w7 w8:=hu8.own hg7B hBw
     replace OB:=hid (Box.grown OB.out hu8 (by intro h;injection h with h;exact hoa7 h.symm))
     have KOF:=hid (HKO.out w8 hx8 hu8)
     replace HP:=hid (HP.out.belowB hb8 hbB (fun hn g o e=>by have:=HA.out hn g o e;omega))
     replace HU:=hid (HU.out.trans (hb8.mono hwB))
     replace KB:=hid ((hb8.block _ hkB).trans KB.out)
     replace hBw:=Nat.le_trans hBw hb8.size
     refine hK.out _ _ (.inl rfl) (fun hHeld=> ?_)
     clear hK hHeld K
     (try simp only[Act.put,sq])
     clear hx8 hu8 hz8 hb8 hcur hcl hKO HKO
     refine rdU 10 rfl fun K hK=> ?_
     have c3:=OB.out.cell 3
     have f3:w8.frozen? ⟨oa,3,none⟩=false:=OB.out.frozen 3
     simp[nc] at c3
     go_simp
     have hu9:Upd w8 (w8.setCell ⟨oa,3,none⟩ (Value.slice (some ⟨g7,0,none⟩) (acc.length+1) cap7)) oa:=(Upd.refl _ _).set (.inl rfl) _
     have OB9:=OB.out.set 3 (Value.slice (some ⟨g7,0,none⟩) (acc.length+1) cap7)
     obtain⟨wz,hwz⟩:∃wz,(w8.setCell ⟨oa,3,none⟩ (Value.slice (some ⟨g7,0,none⟩) (acc.length+1) cap7))=wz:=⟨_,rfl⟩
     rw[hwz] at hu9 OB9
     rw[hwz]
     clear hwz
     replace OB9:Box wz oa 24 (nc 30 0 [] (Value.slice (some ⟨g7,0,none⟩) (acc.length+1) cap7)):=by simpa [nc] using OB9
     replace OB:=hid OB9
     replace KOF:=hid (KOF.out.self hu9)
     have hb9:Below w.heap.size w8 wz:=hu9.own (by omega) (by have:=HU.out.size;omega)
     replace HP:=hid (HP.out.far hu9 (by omega) (fun hn g o e=>by have:=HA.out hn g o e;omega))
     replace KB:=bg KB hu9
     replace HU:=hid (HU.out.trans hb9)
     replace hBw:=Nat.le_trans hBw hb9.size
     refine hK.out _ _ (.inl rfl) (fun hHeld=> ?_)
     clear hK hHeld K
     (try simp only[Act.put,sq])
     clear hu9 OB9 hb9 c3 f3
    rotate_left
    focus
     have c3:=OB.out.cell 3
     have f3:w7.frozen? ⟨oa,3,none⟩=false:=OB.out.frozen 3
     simp[nc] at c3
     go_simp
     have hu9:Upd w7 (w7.setCell ⟨oa,3,none⟩ (Value.slice (some ⟨g7,0,none⟩) (acc.length+1) cap7)) oa:=(Upd.refl _ _).set (.inl rfl) _
     have OB9:=OB.out.set 3 (Value.slice (some ⟨g7,0,none⟩) (acc.length+1) cap7)
     obtain⟨w8,hwz⟩:∃wz,(w7.setCell ⟨oa,3,none⟩ (Value.slice (some ⟨g7,0,none⟩) (acc.length+1) cap7))=wz:=⟨_,rfl⟩
     rw[hwz] at hu9 OB9
     rw[hwz]
     clear hwz
     replace OB9:Box w8 oa 24 (nc 30 0 [] (Value.slice (some ⟨g7,0,none⟩) (acc.length+1) cap7)):=by simpa [nc] using OB9
     replace OB:=hid OB9
     replace KOF:=hid (KOF.out.self hu9)
     replace HN1:=hid (HN1.out.upd hu9 (fun q hq=>hq.2.1))
     have hb9:Below w.heap.size w7 w8:=hu9.own (by omega) (by have:=HU.out.size;omega)
     replace HP:=hid (HP.out.far hu9 (by omega) (fun hn g o e=>by have:=HA.out hn g o e;omega))
     replace KB:=bg KB hu9
     replace HU:=hid (HU.out.trans hb9)
     replace hBw:=Nat.le_trans hBw hb9.size
     refine hK.out _ _ (.inl rfl) (fun hHeld=> ?_)
     clear hK hHeld K
     (try simp only[Act.put,sq])
     clear hu9 OB9 hb9 c3 f3
     refine rdU 8 rfl fun K hK=> ?_
     obtain⟨cur,hcur,hcl,hKO⟩:=KOF.out.last HN1.out
     have HKO:=hid hKO
     refine step_store_midbox rfl 24 (.tmp 24) (.tmp 20) rfl g7 (acc.length * 4) #[.int .i64 x1.kind,.int .i64 x1.num,.string (byt x1.text),v1] (by simp[Act.eval,Act.put]) (by simp[Act.eval,Act.put]) cur 24 hcur hcl info_nod (nc_one _ _ _ HVO1.out) ?_
     intro wz hx8 hu8 hz8
     have hb8:Below B w8 wz:=hu8.own hg7B hBw
     replace OB:=hid (Box.grown OB.out hu8 (by intro h;injection h with h;exact hoa7 h.symm))
     have KOF:=hid (HKO.out wz hx8 hu8)
     replace HP:=hid (HP.out.belowB hb8 hbB (fun hn g o e=>by have:=HA.out hn g o e;omega))
     replace HU:=hid (HU.out.trans (hb8.mono hwB))
     replace KB:=hid ((hb8.block _ hkB).trans KB.out)
     replace hBw:=Nat.le_trans hBw hb8.size
     refine hK.out _ _ (.inl rfl) (fun hHeld=> ?_)
     clear hK hHeld K
     (try simp only[Act.put,sq])
     clear hx8 hu8 hz8 hb8 hcur hcl hKO HKO
    all_goals
     refine wpAnyU_done (by kernel_rfl) ?_ _
     have hle9:=HP.out.kle
     go_wp2
     go_roundg (ts.length - (k2))
     case measure=>omega
     case rel=>exact⟨k2,m',acc++[x1],(Value.slice (some ⟨g7,0,none⟩) (acc.length+1) cap7),by omega,hle9,by simp only[ln];omega,by omega,hBw,OB,KB,KOF,HP,HU,HT⟩
  ·have hkz:¬(k':Int)<(ts.length:Int):=by omega
   have hkd:decide ((k':Int)<(ts.length:Int))=false:=decide_eq_false hkz
   have HN0:Hid (Pars.tree (toks ts)=some (.mk 30 0 [] acc)):=hid (by unfold Pars.tree;rw[show (toks ts).length=ts.length by simp[toks],HT.out,left_nil (by omega),show Pars.top m acc []=some acc by cases m<;>rfl];rfl)
   have ob:=OB.out
   have kc0:=KB.out.cell 0
   have kf0:wr.frozen? ⟨oa+1,0,none⟩=false:=KB.out.frozen 0
   simp at kc0
   go_wp2_with (first | (refine wpList_load_row rfl 24 (.tmp 2) rfl oa rfl _ (nc 30 0 [] (Value.slice KA acc.length kc)) (0,0) _ ob Tryz.underlying24 rfl info_nod ?_) | (refine wpList_store_box rfl 24 (.tmp 2) (.tmp 26) rfl oa (nc 30 0 [] (Value.slice KA acc.length kc)) rfl rfl 24 _ ob info_nod rfl (nc_own _ _ _ KOF.out) ?_;intro wy hxz huz hzz;have HZZ:=hid hzz;have KB2:=bg KB huz;have kc1:=KB2.out.cell 0;have kf1:wy.frozen? ⟨oa+1,0,none⟩=false:=KB2.out.frozen 0;simp at kc1;clear hzz kc0 kf0))
   refine leaves_cons (f:=52) (args:= #[.pointer (some ⟨oa,0,none⟩),.pointer (some ⟨oa+1,0,none⟩)]) (by simp) (by simp[go_sem]) ?_
   refine (catch_none oa (oa+1) _).mono ?_
   rintro e u' w'' ⟨rfl,rfl,rfl⟩
   have hu8:Upd wy (wy.setCell ⟨oa+1,0,none⟩ (.bool true)) (oa+1):=(Upd.refl _ _).set (.inl rfl) _
   refine⟨_,results_bc rfl (Back.mk' oa 24 _ rfl (hxz.far (p:=⟨oa+1,0,none⟩) (by simp) _) Tryz.underlying24 rfl info_nod) (.mk' (oa+1) true rfl (KB2.out.set 0 (.bool true))),.inl ⟨acc,_,HN0.out,rfl,?_,by omega,?_⟩⟩
   ·exact (((KOF.out.self huz).node 30 0 []).upd hu8 (fun g hg=>by have:=hg.1;omega)).weak (fun g hg=>by have:=hg.1;omega)
   ·have hz:=HU.out.size
    have hz2:=huz.size
    exact (HU.out.trans (huz.own hwoa hz)).trans (hu8.own (by omega) (by omega))
end Go.Proofs.YtflmjbmdmoifhaaGreatDoor
namespace Pars
open Lexy (Tk)
theorem deeps_append:∀a b:List Node,deeps (a++b)=max (deeps a) (deeps b)
 | [],b=>by simp[deeps]
 | n :: a,b=>by rw[List.cons_append];simp only[deeps];rw[deeps_append a b];omega
end Pars
namespace Go.Proofs.YtflmjbmdmoifhaaGreatDoor
open Go.Lib (hid)
open Go.RowKit
section
variable {P : Program} {ops : Array Oper} {rest : List Oper} {o : Oper} {a : Act} {w : World} {Q : Exit → Act → World → Prop}
theorem wpList_max2 (hgd:o.guard=none) (x y:Operand) (ts:Array TypeId) (hop:o.op= .call {callee:= .builtin .max,args:= #[x,y],argTypes:=ts})
  (A B M:Int) (hx:a.eval x= .int .i64 A) (hy:a.eval y= .int .i64 B) (hM:max A B=M)
  (h:wpList P ops Q rest (a.put o.dst (.int .i64 M)) w):wpList P ops Q (o :: rest) a w:=by
 refine wpList_plain hgd fun K hK=> ?_
 have hrun:=run_max_int2 (P:=P) (w:=w) ts o.type .i64 .i64 A B
 have e:(if B>A then B else A)=M:=by rw[←hM];simp only[Int.max_def];split<;>split<;>omega
 rw[e] at hrun
 unfold Oper.wp execOp
 simp only[hop,resolve,invoke,builtin,Sem.run_bind,Sem.run_pure,Result.andThen_ok,List.map_toArray,List.map_cons,List.map_nil,hx,hy,hrun]
 exact hK _ _ h
theorem wpList_min2 (hgd:o.guard=none) (x y:Operand) (ts:Array TypeId) (hop:o.op= .call {callee:= .builtin .min,args:= #[x,y],argTypes:=ts})
  (A B M:Int) (hx:a.eval x= .int .i64 A) (hy:a.eval y= .int .i64 B) (hM:min A B=M)
  (h:wpList P ops Q rest (a.put o.dst (.int .i64 M)) w):wpList P ops Q (o :: rest) a w:=by
 refine wpList_plain hgd fun K hK=> ?_
 have hrun:=run_min_int2 (P:=P) (w:=w) ts o.type .i64 .i64 A B
 have e:(if B<A then B else A)=M:=by rw[←hM];simp only[Int.min_def];split<;>split<;>omega
 rw[e] at hrun
 unfold Oper.wp execOp
 simp only[hop,resolve,invoke,builtin,Sem.run_bind,Sem.run_pure,Result.andThen_ok,List.map_toArray,List.map_cons,List.map_nil,hx,hy,hrun]
 exact hK _ _ h
end
end Go.Proofs.YtflmjbmdmoifhaaGreatDoor
namespace Go.Proofs.YtflmjbmdmoifhaaGreatDoor.Jl
open Go.Lib (hid)
open Go.RowKit
theorem run_at (s:ByteArray) (c:UInt8) (i:Int) (h0:0≤i) (h:s.data.toList[i.toNat]? =some c) (w:World):
  (Instr.index 9 (.string s) (.int .i64 i)).run Tryz.prog w= .ok (.int .u8 (c.toNat:Int)) w:=by
 have hlt:i.toNat<s.size:=by
  have:=(List.getElem?_eq_some_iff.1 h).1
  simpa using this
 have hg:s[i.toNat]'hlt=c:=by
  obtain⟨h1,h2⟩:=List.getElem?_eq_some_iff.1 h
  rw[←h2];rfl
 rw[run_index_string (P:=Tryz.prog) w 9 s .i64 i Tryz.underlying9]
 rw[dif_pos ⟨by omega,by omega⟩]
 simp only[hg]
set_option maxHeartbeats 400000 in
theorem peek_in (b:Nat) (s:ByteArray) (k j:Nat) (c:UInt8) (w:World) (hs:w.cell? ⟨b,0,none⟩=some (.string s)) (hk:w.cell? ⟨b,1,none⟩=some (.int .i64 k))
  (hm:s.size≤1000000) (hj:j≤1000) (hkm:k≤1000000) (hlt:k+j<s.size) (hc:s.data.toList[k+j]? =some c):
  Calls Tryz.prog 44 #[.pointer (some ⟨b,0,none⟩),.int .i64 j] w fun e w'=>e= .returned (.int .u8 c.toNat)∧∃n,w'=w.drewN n:=by
 have hi:=fun w=>run_at s c ((k:Int)+(j:Int)) (by omega) (by rw[show ((k:Int)+(j:Int)).toNat=k+j by omega];exact hc) w
 have h1:decide ((k:Int)+j<s.size)=true:=by simp;omega
 go_enter Tryz.func44,Tryz.ntmps44
 go_wp2
 go_quiet (fail)
 go_wp2
 go_quiet (fail)
 go_wp2
 go_ret
 exact⟨rfl,_,World.drewN_drewN _ _ _⟩
set_option maxHeartbeats 400000 in
theorem peek_out (b:Nat) (s:ByteArray) (k j:Nat) (w:World) (hs:w.cell? ⟨b,0,none⟩=some (.string s)) (hk:w.cell? ⟨b,1,none⟩=some (.int .i64 k))
  (hm:s.size≤1000000) (hj:j≤1000) (hkm:k≤1000000) (hge:s.size≤k+j):
  Calls Tryz.prog 44 #[.pointer (some ⟨b,0,none⟩),.int .i64 j] w fun e w'=>e= .returned (.int .u8 0)∧∃n,w'=w.drewN n:=by
 have h1:decide ((k:Int)+j<s.size)=false:=by simp;omega
 go_enter Tryz.func44,Tryz.ntmps44
 go_wp2
 go_quiet (fail)
 go_wp2
 go_ret
 exact⟨rfl,_,rfl⟩
end Go.Proofs.YtflmjbmdmoifhaaGreatDoor.Jl
namespace Go.Proofs.YtflmjbmdmoifhaaGreatDoor.Jl
open Go.Lib (hid)
open Go.RowKit
theorem index_byte (s:ByteArray) (c:Int) (w:World):
  Calls Tryz.prog 45 #[.string s,.int .u8 c] w fun e w'=>e= .returned (.int .i64 (Lib.indexByte s.data.toList c.toNat.toUInt8))∧w'=w:=Tryz.strings_IndexByte s c w
def Env (w:World):Prop:=Lib.TabIs Tryz.prog w "strings.asciiSpace" .u8 Lib.asciiSpaceTab
theorem gSpace:Tryz.prog.globalNamed "strings.asciiSpace" =some 0:=by kernel_rfl
theorem Env.below {w w':World} (h:Env w) {B:Nat} (hb:Below B w w') (hB:4≤B):Env w':=var?_below hb gSpace (by omega) h
theorem Env.upd {w w':World} (h:Env w) {b:Nat} (hu:Upd w w' b) (hb:4≤b) (hlt:b≤w.heap.size):Env w':=h.below (hu.own (Nat.le_refl b) hlt) hb
theorem Env.drewN {w:World} (h:Env w) (n:Nat):Env (w.drewN n):=h
theorem Env.alloc {w:World} (h:Env w) (hB:4≤w.heap.size) (o:Obj):Env (w.alloc o):=h.below ((Below.refl _ _).alloc (Nat.le_refl _) o) hB
def bytes (l:Lexy.Bs):ByteArray:=⟨l.toArray⟩
def kwText:Lexy.Bs:=[108,101,116,32,102,110,32,105,102,32,101,108,115,101,32,119,104,105,108,101,32,102,111,114,32,111,102,32,114,101,116,117,114,110,32,98,114,101,97,107,32,99,111,110,116,105,110,117,101,32,116,104,114,111,119,32,116,114,121,32,99,97,116,99,104,32,102,105,110,97,108,108,121,32,116,114,117,101,32,102,97,108,115,101,32,110,117,108,108]
theorem kw_fields:Lib.fields kwText=Lexy.kws:=by decide+kernel
def sgText:Lexy.Bs:=[61,61,32,33,61,32,60,61,32,62,61,32,38,38,32,124,124,32,61,32,33,32,60,32,62,32,43,32,45,32,42,32,47,32,37,32,40,32,41,32,91,32,93,32,123,32,125,32,44,32,59,32,58,32,46,32,63]
theorem sg_fields:Lib.fields sgText=Lexy.signs:=by decide+kernel
def wordCells (ls:List Lexy.Bs):Array Value:=(ls.map fun l=>Value.string ⟨l.toArray⟩).toArray
theorem ascii_of {l:Lexy.Bs} (h:(l.all fun b=>decide (b.toNat<128))=true):∀(j:Nat) b,(bytes l).data.toList[j]? =some b→b.toNat<128:=by
 intro j b hb
 have hm:b∈l:=List.mem_of_getElem? hb
 simpa using List.all_eq_true.1 h b hm
theorem fields_kw (w:World) (he:Env w):
  Calls Tryz.prog 71 #[.string (bytes kwText)] w fun e w'=>e= .returned (.slice (some ⟨w.heap.size,0,none⟩) 17 17)∧w'=w.alloc (.cells (wordCells Lexy.kws) 9):=by
 have h:=Tryz.strings_Fields (bytes kwText) w (by decide) (ascii_of (by decide+kernel)) he
 have e:(bytes kwText).data.toList=kwText:=rfl
 rw[e,kw_fields] at h
 exact h
theorem fields_sg (w:World) (he:Env w):
  Calls Tryz.prog 71 #[.string (bytes sgText)] w fun e w'=>e= .returned (.slice (some ⟨w.heap.size,0,none⟩) 26 26)∧w'=w.alloc (.cells (wordCells Lexy.signs) 9):=by
 have h:=Tryz.strings_Fields (bytes sgText) w (by decide) (ascii_of (by decide+kernel)) he
 have e:(bytes sgText).data.toList=sgText:=rfl
 rw[e,sg_fields] at h
 exact h
theorem contains_words (ls:List Lexy.Bs) (n:Nat) (hn:n=ls.length) (hs:n≤1000) (x:ByteArray) (b:Nat) (w:World) (hc:Box w b 9 (wordCells ls)):
  Calls Tryz.prog 13 #[.slice (some ⟨b,0,none⟩) n n,.string x] w fun e w'=>e= .returned (.bool (decide (x.data.toList∈ls)))∧w=w':=by
 subst hn
 have h:=Tryz.slices_Contains_string b 0 ls.length ls.length (ls.map bytes) x w (by simp) (by omega) (fun j hj=>by
  rw[Nat.zero_add,hc.cell j]
  simp only[List.length_map] at hj
  simp[wordCells,bytes,hj])
 refine h.mono fun e w' ⟨he,hw⟩=>⟨?_,hw.symm⟩
 rw[he]
 congr 2
 rw[List.take_of_length_le (by simp),Bool.eq_iff_iff,Lib.containsS_iff,decide_eq_true_iff]
 constructor
 ·intro hm
  obtain⟨l,hl,rfl⟩:=List.mem_map.1 hm
  exact hl
 ·intro hm
  refine List.mem_map.2 ⟨_,hm,?_⟩
  simp[bytes]
end Go.Proofs.YtflmjbmdmoifhaaGreatDoor.Jl
namespace Go.Proofs.YtflmjbmdmoifhaaGreatDoor.Jl
open Go.Lib (hid)
open Go.RowKit
def Rd (w:World) (b:Nat) (s:ByteArray) (k:Nat) (o:Value):Prop:=Box w b 76 #[.string s,.int .i64 (k:Int),o]
section
variable {w : World} {b k : Nat} {s : ByteArray} {o : Value}
theorem Rd.text (h:Rd w b s k o):w.cell? ⟨b,0,none⟩=some (.string s):=by have:=Box.cell h 0;simpa using this
theorem Rd.place (h:Rd w b s k o):w.cell? ⟨b,1,none⟩=some (.int .i64 (k:Int)):=by have:=Box.cell h 1;simpa using this
theorem Rd.told (h:Rd w b s k o):w.cell? ⟨b,2,none⟩=some o:=by have:=Box.cell h 2;simpa using this
theorem Rd.free (h:Rd w b s k o) (i:Nat):w.frozen? ⟨b,i,none⟩=false:=Box.frozen h i
theorem Rd.drewN (h:Rd w b s k o) (n:Nat):Rd (w.drewN n) b s k o:=h
theorem Rd.moveI (h:Rd w b s k o) (v:Int) (j:Nat) (e:v=(j:Int)):Rd (w.setCell ⟨b,1,none⟩ (.int .i64 v)) b s j o:=by
 subst e
 have:=Box.set h 1 (.int .i64 (j:Int));simpa [Rd] using this
theorem Rd.move (h:Rd w b s k o) (j:Nat):Rd (w.setCell ⟨b,1,none⟩ (.int .i64 (j:Int))) b s j o:=by
 have:=Box.set h 1 (.int .i64 (j:Int));simpa [Rd] using this
end
theorem blank_cases {c:UInt8} (h:Lexy.isBlank c=true):c=32∨c=9∨c=10∨c=13:=by
 simp only[Lexy.isBlank,Bool.or_eq_true,beq_iff_eq] at h
 rcases h with ((h | h) | h) | h<;>simp[h]
theorem nblank_ne {c:UInt8} (h:¬Lexy.isBlank c=true):((c.toNat:Int)==32)=false∧((c.toNat:Int)==9)=false∧((c.toNat:Int)==10)=false∧((c.toNat:Int)==13)=false:=by
 have hn:∀d:UInt8,c≠d→((c.toNat:Int)==(d.toNat:Int))=false:=fun d hd=>by
  have:c.toNat≠d.toNat:=fun e=>hd (UInt8.toNat_inj.1 e)
  simp;omega
 simp only[Lexy.isBlank,Bool.or_eq_true,beq_iff_eq,not_or] at h
 exact⟨hn 32 h.1.1.1,hn 9 h.1.1.2,hn 10 h.1.2,hn 13 h.2⟩
theorem byte_ne {c d:UInt8} (h:c≠d):((c.toNat:Int)==(d.toNat:Int))=false:=by
 have:c.toNat≠d.toNat:=fun e=>h (UInt8.toNat_inj.1 e)
 simp;omega
theorem skp_comment:∀r:Lexy.Bs,Lexy.skp true r=if Lib.indexByte r 10<0 then r.length else (Lib.indexByte r 10).toNat+Lexy.skp false (r.drop (Lib.indexByte r 10).toNat):=by
 intro r
 induction r with
 | nil=>simp[Lexy.skp,Lib.indexByte]
 | cons c r ih=>
  have hge:=Lib.indexByte_ge r 10
  by_cases hc:(c==10)=true
  ·have e:Lib.indexByte (c :: r) 10=0:=by simp[Lib.indexByte,hc]
   simp only[e]
   simp[Lexy.skp,Lexy.isBlank,eq_of_beq hc]
  ·have e1:Lexy.skp true (c :: r)=1+Lexy.skp true r:=by simp[Lexy.skp,hc]
   rw[e1,ih]
   by_cases hn:Lib.indexByte r 10= -1
   ·have e:Lib.indexByte (c :: r) 10= -1:=by simp[Lib.indexByte,hc,hn]
    simp only[e,hn]
    simp;omega
   ·have e:Lib.indexByte (c :: r) 10=Lib.indexByte r 10+1:=by simp[Lib.indexByte,hc,hn]
    simp only[e]
    rw[if_neg (by omega),if_neg (by omega)]
    rw[show (Lib.indexByte r 10+1).toNat=(Lib.indexByte r 10).toNat+1 by omega,List.drop_succ_cons]
    omega
theorem indexByte_lt (r:Lexy.Bs) (c:UInt8):Lib.indexByte r c≤r.length:=by
 induction r with
 | nil=>simp[Lib.indexByte]
 | cons d r ih=>simp only[Lib.indexByte,List.length_cons];split<;>(try split)<;>omega
set_option maxRecDepth 100000 in
set_option maxHeartbeats 1000000 in
theorem skip_any (b:Nat) (s:ByteArray) (k:Nat) (o:Value) (w:World) (h:Rd w b s k o) (hk:k≤s.size) (hm:s.size≤1000000):
  Calls Tryz.prog 28 #[.pointer (some ⟨b,0,none⟩)] w fun e w'=>
   e= .returned (.tuple #[])∧Rd w' b s (k+Lexy.skp false (s.data.toList.drop k)) o∧Upd w w' b:=by
 obtain⟨l,hl⟩:∃l,s.data.toList=l:=⟨_,rfl⟩
 have hsz:l.length=s.size:=by rw[←hl];simp
 rw[hl]
 obtain⟨T,hT⟩:∃T,k+Lexy.skp false (l.drop k)=T:=⟨_,rfl⟩
 rw[hT]
 have HL:=hid hl;clear hl
 have HT:=hid hT;clear hT
 have HS:=hid hsz;clear hsz
 go_enter Tryz.func28,Tryz.ntmps28
 go_wp2
 go_loopg [] (s.size - k) (fun g wr=>∃k',k'≤s.size∧g=s.size - k'∧Rd wr b s k' o∧Upd w wr b∧Hid (k'+Lexy.skp false (l.drop k')=T))
 case atStart=>exact⟨k,hk,rfl,h,Upd.refl _ _,HT⟩
 case round=>
  obtain⟨k',hk',hg,hr,hu,H⟩:=hrel
  have HG:=hid hg;clear hg
  have hs0:=hr.text;have hp0:=hr.place;have hf:=hr.free 1
  by_cases hlt:k'<s.size
  ·obtain⟨c,hc⟩:∃c,l[k']? =some c:=⟨_,List.getElem?_eq_getElem (by rw[HS.out];exact hlt)⟩
   have hl1:decide ((k':Int)<s.size)=true:=by simp;omega
   have hi:=fun w=>run_at s c (k':Int) (by omega) (by rw[HL.out];exact hc) w
   have hd:l.drop k'=c :: l.drop (k'+1):=by
    obtain⟨h1,h2⟩:=List.getElem?_eq_some_iff.1 hc
    rw[List.drop_eq_getElem_cons h1,h2]
   have HC:=hid hc;clear hc
   have HD:=hid hd;clear hd
   by_cases hb:Lexy.isBlank c=true
   ·have HB:=hid hb
    have H1:Hid (k'+1+Lexy.skp false (l.drop (k'+1))=T):=by
     have:=H.out;rw[HD.out] at this;simp only[Lexy.skp,HB.out,if_true] at this;exact hid (by omega)
    rcases blank_cases hb with rfl | rfl | rfl | rfl
    all_goals
     clear hb
     go_wp2
     go_quiet (fail)
     go_wp2
     go_quiet (fail)
     go_wp2
     go_roundg (s.size - (k'+1))
     case measure=>rw[HG.out];omega
     case rel=>exact⟨k'+1,by omega,rfl,(hr.drewN _).move (k'+1),(hu.drewN _).set (.inl rfl) _,H1⟩
   ·have hnb:=nblank_ne hb
    obtain⟨n1,n2,n3,n4⟩:=hnb
    by_cases h47:c=47
    ·subst h47
     clear n1 n2 n3 n4
     by_cases h2:l[k'+1]? =some 47
     ·have hlt2:k'+1<s.size:=by rw[←HS.out];exact (List.getElem?_eq_some_iff.1 h2).1
      have HPK:=hid (fun w h0 h1=>peek_in b s k' 1 47 w h0 h1 hm (by omega) (by omega) hlt2 (by rw[HL.out];exact h2))
      obtain⟨N,hN⟩:∃N,Lib.indexByte (l.drop k') 10=N:=⟨_,rfl⟩
      have hNge:=Lib.indexByte_ge (l.drop k') 10
      have hNle:=indexByte_lt (l.drop k') 10
      have HT2:Hid (Lexy.skp true (l.drop k')=Lexy.skp false (l.drop k')):=by
       have e2:(l.drop (k'+1)).head? =some 47:=by rw[List.head?_drop];exact h2
       rw[HD.out];simp[Lexy.skp,Lexy.isBlank,e2,Hid]
      have hex:(s.extract k' s.size).data.toList=l.drop k':=by
       rw[←HL.out];simp;exact List.take_of_length_le (by simp)
      have HIB:Hid (∀w,Calls Tryz.prog 45 #[.string (s.extract k' s.size),.int .u8 10] w fun e w'=>e= .returned (.int .i64 N)∧w'=w):=by
       intro w
       have:=index_byte (s.extract k' s.size) 10 w
       rw[hex] at this
       rw[←hN];exact this
      have hlen:(l.drop k').length=s.size - k':=by rw[List.length_drop,HS.out]
      have hcm:=skp_comment (l.drop k')
      rw[HT2.out] at hcm
      simp only[hN] at hcm
      rw[hlen] at hcm
      have HTT:=H.out
      rw[hcm] at HTT
      rw[hN] at hNge hNle
      rw[hlen] at hNle
      have HN0:=hid hN
      clear hN hex hcm hlen h2 hb
      by_cases hN0:N<0
      ·rw[if_pos hN0] at HTT
       have HTT2:Hid (s.size+Lexy.skp false (l.drop s.size)=T):=by
        have e:l.drop s.size=[]:=List.drop_eq_nil_of_le (by rw[HS.out];omega)
        rw[e];simp only[Lexy.skp];exact hid (by omega)
       clear HTT
       have hnn:decide (N<0)=true:=by simpa using hN0
       go_wp2
       go_quiet (fail)
       go_wp2
       go_quiet (fail)
       go_wp2_with fail
       refine (HPK.out _ (by go_simp) (by go_simp)).mono ?_
       rintro e w1 ⟨rfl,n1,rfl⟩
       go_wp2_with fail
       go_quiet ((go_at_call 45;exact quiet_more_same (HIB.out _)))
       go_wp2_with fail
       go_quiet (fail)
       go_wp2_with fail
       go_roundg 0
       case measure=>rw[HG.out];omega
       case rel=>exact⟨s.size,Nat.le_refl _,by omega,(hr.drewN _).moveI _ s.size (by omega),(hu.drewN _).set (.inl rfl) _,HTT2⟩
      ·rw[if_neg hN0] at HTT
       obtain⟨m,rfl⟩:∃m:Nat,N=(m:Int):=⟨N.toNat,by omega⟩
       have hm2:m≤s.size - k':=by omega
       have hm0:0<m:=by
        have h1:=HN0.out
        rcases Nat.eq_zero_or_pos m with h | h
        ·subst h;exact absurd h1 (by rw[HD.out];simp[Lib.indexByte];split<;>omega)
        ·exact h
       have HTT2:Hid (k'+m+Lexy.skp false (l.drop (k'+m))=T):=by
        rw[List.drop_drop] at HTT;simp only[Int.toNat_natCast] at HTT;exact hid (by omega)
       clear HTT
       have hnn:decide ((m:Int)<0)=false:=by simp
       go_wp2
       go_quiet (fail)
       go_wp2
       go_quiet (fail)
       go_wp2_with fail
       refine (HPK.out _ (by go_simp) (by go_simp)).mono ?_
       rintro e w1 ⟨rfl,n1,rfl⟩
       go_wp2_with fail
       go_quiet ((go_at_call 45;exact quiet_more_same (HIB.out _)))
       go_wp2_with fail
       go_roundg (s.size - (k'+m))
       case measure=>rw[HG.out];omega
       case rel=>exact⟨k'+m,by omega,rfl,(hr.drewN _).moveI _ (k'+m) (by omega),(hu.drewN _).set (.inl rfl) _,HTT2⟩
     ·have HT2:Hid (k'=T):=by
       have:=H.out;rw[HD.out] at this;simp only[Lexy.skp] at this
       rw[if_neg hb,if_neg (by rw[List.head?_drop];simp[h2])] at this;exact this
      have HPK:Hid (∀w:World,w.cell? ⟨b,0,none⟩=some (.string s)→w.cell? ⟨b,1,none⟩=some (.int .i64 k')→
        ∃d:UInt8,((d.toNat:Int)==47)=false∧Calls Tryz.prog 44 #[.pointer (some ⟨b,0,none⟩),.int .i64 1] w fun e w'=>e= .returned (.int .u8 d.toNat)∧∃n,w'=w.drewN n):=by
       intro w h0 h1
       by_cases hlt2:k'+1<s.size
       ·have hx:k'+1<l.length:=by rw[HS.out];exact hlt2
        have hg:l[k'+1]? =some l[k'+1]:=List.getElem?_eq_getElem hx
        refine⟨l[k'+1],byte_ne (d:=47) (fun e=>h2 (by rw[hg,e])),?_⟩
        exact peek_in b s k' 1 _ w h0 h1 hm (by omega) (by omega) hlt2 (by rw[HL.out];exact hg)
       ·exact⟨0,by decide,peek_out b s k' 1 w h0 h1 hm (by omega) (by omega) (by omega)⟩
      clear hb h2
      go_wp2
      go_quiet (fail)
      go_wp2
      go_quiet (fail)
      go_wp2_with fail
      obtain⟨d,hd47,hcall⟩:=HPK.out (wr.drewN (_+_)) (by go_simp) (by go_simp)
      have HCL:=hid hcall
      clear hcall
      refine (HCL.out).mono ?_
      rintro e w1 ⟨rfl,n1,rfl⟩
      go_wp2
      refine bodyPost_ret (results_none rfl _ _ _) rfl ?_
      refine⟨rfl,?_,hu.drewN _⟩
      rw[←HT2.out];exact hr
    ·have n5:((c.toNat:Int)==47)=false:=byte_ne h47
     have HT2:Hid (k'=T):=by
      have:=H.out;rw[HD.out] at this;simp only[Lexy.skp] at this
      rw[if_neg hb,if_neg (by simp[h47])] at this;exact this
     clear hb
     go_wp2
     go_quiet (fail)
     go_wp2
     go_quiet (fail)
     go_wp2
     refine bodyPost_ret (results_none rfl _ _ _) rfl ?_
     refine⟨rfl,?_,hu.drewN _⟩
     rw[←HT2.out];exact hr
  ·have hl1:decide ((k':Int)<s.size)=false:=by simp;omega
   go_wp2
   go_quiet (fail)
   go_wp2
   refine bodyPost_end (results_none rfl _ _ _) rfl ?_
   refine⟨rfl,?_,hu.drewN _⟩
   have e:l.drop k'=[]:=List.drop_eq_nil_of_le (by rw[HS.out];omega)
   have e2:=H.out
   rw[e] at e2
   simp only[Lexy.skp] at e2
   rw[←e2];exact hr
end Go.Proofs.YtflmjbmdmoifhaaGreatDoor.Jl
namespace Go.Proofs.YtflmjbmdmoifhaaGreatDoor.Jl
open Go.Lib (hid)
open Go.RowKit
theorem ret_bool {a b:Bool} (h:a=b):Ending.returned (.bool a)= .returned (.bool b):=by rw[h]
theorem letter_any (c:UInt8) (w:World):Calls Tryz.prog 46 #[.int .u8 (c.toNat:Int)] w fun e w'=>e= .returned (.bool (Lexy.isLetter c))∧w=w':=by
 have h0:(0:Int)≤(c.toNat:Int):=by omega
 have h1:(c.toNat:Int)≤255:=by have:=c.toNat_lt;omega
 have e95:(c==95)=((c.toNat:Int)==95):=by
  rw[Bool.eq_iff_iff];simp only[beq_iff_eq];rw[←UInt8.toNat_inj];simp;omega
 have hd:∀a b:Nat,Lexy.isLetter c=((decide (97≤(c.toNat:Int))&&decide ((c.toNat:Int)≤122))||(decide (65≤(c.toNat:Int))&&decide ((c.toNat:Int)≤90))||((c.toNat:Int)==95)):=by
  intro a b
  unfold Lexy.isLetter
  rw[e95]
  congr 1
  congr 1<;>congr 1<;>exact decide_eq_decide.2 (by omega)
 rw[hd 0 0]
 clear hd e95
 obtain⟨n,hn⟩:∃n:Int,(c.toNat:Int)=n:=⟨_,rfl⟩
 rw[hn] at h0 h1 ⊢
 clear hn
 go_enter Tryz.func46,Tryz.ntmps46
 go_wp2
 all_goals go_ret
 all_goals exact⟨ret_bool (by first | rfl | (rw[Bool.eq_iff_iff];first | (simp;done) | (simp;omega))),rfl⟩
theorem digit_any (c:UInt8) (w:World):Calls Tryz.prog 48 #[.int .u8 (c.toNat:Int)] w fun e w'=>e= .returned (.bool (Lexy.isDigit c))∧w=w':=by
 have hd:∀a b:Nat,Lexy.isDigit c=(decide (48≤(c.toNat:Int))&&decide ((c.toNat:Int)≤57)):=by
  intro a b
  unfold Lexy.isDigit
  congr 1<;>exact decide_eq_decide.2 (by omega)
 rw[hd 0 0]
 clear hd
 obtain⟨n,hn⟩:∃n:Int,(c.toNat:Int)=n:=⟨_,rfl⟩
 rw[hn]
 go_enter Tryz.func48,Tryz.ntmps48
 go_wp2
 all_goals go_ret
 all_goals exact⟨ret_bool (by first | rfl | (rw[Bool.eq_iff_iff];first | (simp;done) | (simp;omega))),rfl⟩
theorem tw_cons {p:UInt8→Bool} {c:UInt8} {r:Lexy.Bs} (h:p c=true):((c :: r).takeWhile p).length=1+(r.takeWhile p).length:=by
 simp[h];omega
theorem tw_stop {p:UInt8→Bool} {c:UInt8} {r:Lexy.Bs} (h:p c=false):((c :: r).takeWhile p).length=0:=by
 simp[h]
theorem tw_len (p:UInt8→Bool) (l:Lexy.Bs):(l.takeWhile p).length≤l.length:=List.Sublist.length_le (List.takeWhile_sublist _)
end Go.Proofs.YtflmjbmdmoifhaaGreatDoor.Jl
namespace Go.Proofs.YtflmjbmdmoifhaaGreatDoor.Jl
open Go.Lib (hid)
open Go.RowKit
set_option maxRecDepth 100000 in
set_option maxHeartbeats 1000000 in
theorem run_digit (b:Nat) (s:ByteArray) (k:Nat) (o:Value) (w:World) (h:Rd w b s k o) (hk:k≤s.size) (hm:s.size≤1000000):
  Calls Tryz.prog 69 #[.pointer (some ⟨b,0,none⟩),.func (.func 48) #[] #[]] w fun e w'=>
   e= .returned (.string (s.extract k (k+((s.data.toList.drop k).takeWhile Lexy.isDigit).length)))∧Rd w' b s (k+((s.data.toList.drop k).takeWhile Lexy.isDigit).length) o∧Upd w w' b:=by
 obtain⟨l,hl⟩:∃l,s.data.toList=l:=⟨_,rfl⟩
 have hsz:l.length=s.size:=by rw[←hl];simp
 rw[hl]
 obtain⟨M,hT⟩:∃M,((l.drop k).takeWhile Lexy.isDigit).length=M:=⟨_,rfl⟩
 have hM:k+M≤s.size:=by
  have:=tw_len Lexy.isDigit (l.drop k);rw[hT,List.length_drop,hsz] at this;omega
 rw[hT]
 have HL:=hid hl;clear hl
 have HT:=hid hT;clear hT
 have HS:=hid hsz;clear hsz
 have hp0:=h.place
 go_enter Tryz.func69,Tryz.ntmps69
 go_wp2
 go_loopg [] M (fun g wr=>∃j,g=M - j∧j≤M∧Rd wr b s (k+j) o∧Upd w wr b∧Hid (j+((l.drop (k+j)).takeWhile Lexy.isDigit).length=M))
 case atStart=>exact⟨0,rfl,Nat.zero_le _,h,Upd.refl _ _,hid (by rw[Nat.zero_add];exact HT.out)⟩
 case round=>
  obtain⟨j,hg,hjM,hr,hu,H⟩:=hrel
  have HG:=hid hg;clear hg
  clear hp0
  obtain⟨k',hk'⟩:∃k',k+j=k':=⟨_,rfl⟩
  rw[hk'] at hr H
  have HK:=hid hk'
  have hkk:k'≤s.size:=by omega
  clear hk'
  have hs0:=hr.text;have hp0:=hr.place;have hf:=hr.free 1
  by_cases hlt:k'<s.size
  ·obtain⟨c,hc⟩:∃c,l[k']? =some c:=⟨_,List.getElem?_eq_getElem (by rw[HS.out];exact hlt)⟩
   have hl1:decide ((k':Int)<s.size)=true:=by simp;omega
   have hi:=fun w=>run_at s c (k':Int) (by omega) (by rw[HL.out];exact hc) w
   have hd:l.drop k'=c :: l.drop (k'+1):=by
    obtain⟨h1,h2⟩:=List.getElem?_eq_some_iff.1 hc
    rw[List.drop_eq_getElem_cons h1,h2]
   have HC:=hid hc;clear hc
   have HD:=hid hd;clear hd
   cases hpc:Lexy.isDigit c with
   | true=>
    have H1:Hid (j+1+((l.drop (k'+1)).takeWhile Lexy.isDigit).length=M):=by
     have:=H.out;rw[HD.out,tw_cons hpc] at this;exact hid (by omega)
    have hj1:j+1≤M:=by have:=H1.out;omega
    have HP:=hid hpc;clear hpc
    go_wp2
    go_quiet ((go_at_call 48;exact Calls.quiet_of ((digit_any c _).mono fun _ _ ⟨he,hw⟩=>⟨by rw[he,HP.out],0,hw.symm⟩)))
    go_wp2
    go_roundg (M - (j+1))
    case measure=>rw[HG.out];omega
    case rel=>exact⟨j+1,rfl,hj1,(hr.drewN _).moveI _ _ (by rw[←HK.out];omega),(hu.drewN _).set (.inl rfl) _,by rw[←Nat.add_assoc,HK.out];exact H1⟩
   | false=>
    have HJ:Hid (M=j):=by
     have:=H.out;rw[HD.out,tw_stop hpc] at this;exact hid (by omega)
    have HP:=hid hpc;clear hpc
    have hle:(k:Int)≤(k':Int):=by have:=HK.out;omega
    have hle2:(k':Int)≤(s.size:Int):=by omega
    go_wp2
    go_quiet ((go_at_call 48;exact Calls.quiet_of ((digit_any c _).mono fun _ _ ⟨he,hw⟩=>⟨by rw[he,HP.out],0,hw.symm⟩)))
    go_wp2
    go_quiet (fail)
    go_wp2
    go_ret
    rw[HJ.out,HK.out]
    exact⟨rfl,hr,(hu.drewN _).drewN _⟩
  ·have hl1:decide ((k':Int)<s.size)=false:=by simp;omega
   have HJ:Hid (M=j):=by
    have:=H.out;rw[List.drop_eq_nil_of_le (by rw[HS.out];omega)] at this;exact hid (by simpa using this.symm)
   have hle:(k:Int)≤(k':Int):=by have:=HK.out;omega
   have hle2:(k':Int)≤(s.size:Int):=by omega
   go_wp2
   go_quiet (fail)
   go_wp2
   go_quiet (fail)
   go_wp2
   go_ret
   rw[HJ.out,HK.out]
   exact⟨rfl,hr,(hu.drewN _).drewN _⟩
theorem name1_any (c:UInt8) (w:World):Calls Tryz.prog 70 #[.int .u8 (c.toNat:Int)] w fun e w'=>e= .returned (.bool (Lexy.isNameB c))∧w=w':=by
 have hd:Lexy.isNameB c=(Lexy.isLetter c||Lexy.isDigit c):=rfl
 rw[hd]
 clear hd
 have HLt:=hid (fun w=>letter_any c w)
 have HDg:=hid (fun w=>digit_any c w)
 obtain⟨p,hp⟩:∃p,Lexy.isLetter c=p:=⟨_,rfl⟩
 obtain⟨q,hq⟩:∃q,Lexy.isDigit c=q:=⟨_,rfl⟩
 rw[hp] at HLt ⊢
 rw[hq] at HDg ⊢
 clear hp hq
 cases p with
 | true=>
  go_enter Tryz.func70,Tryz.ntmps70
  go_wp2_with (go_at_call 46;refine (HLt.out _).mono ?_;rintro e w' ⟨rfl,rfl⟩)
  go_ret
  exact⟨rfl,rfl⟩
 | false=>
  go_enter Tryz.func70,Tryz.ntmps70
  go_wp2_with (first | (go_at_call 46;refine (HLt.out _).mono ?_;rintro e w' ⟨rfl,rfl⟩) | (go_at_call 48;refine (HDg.out _).mono ?_;rintro e w' ⟨rfl,rfl⟩))
  go_ret
  exact⟨rfl,rfl⟩
set_option maxRecDepth 100000 in
set_option maxHeartbeats 1000000 in
theorem run_name (b:Nat) (s:ByteArray) (k:Nat) (o:Value) (w:World) (h:Rd w b s k o) (hk:k≤s.size) (hm:s.size≤1000000):
  Calls Tryz.prog 69 #[.pointer (some ⟨b,0,none⟩),.func (.func 70) #[] #[]] w fun e w'=>
   e= .returned (.string (s.extract k (k+((s.data.toList.drop k).takeWhile Lexy.isNameB).length)))∧Rd w' b s (k+((s.data.toList.drop k).takeWhile Lexy.isNameB).length) o∧Upd w w' b:=by
 obtain⟨l,hl⟩:∃l,s.data.toList=l:=⟨_,rfl⟩
 have hsz:l.length=s.size:=by rw[←hl];simp
 rw[hl]
 obtain⟨M,hT⟩:∃M,((l.drop k).takeWhile Lexy.isNameB).length=M:=⟨_,rfl⟩
 have hM:k+M≤s.size:=by
  have:=tw_len Lexy.isNameB (l.drop k);rw[hT,List.length_drop,hsz] at this;omega
 rw[hT]
 have HL:=hid hl;clear hl
 have HT:=hid hT;clear hT
 have HS:=hid hsz;clear hsz
 have hp0:=h.place
 go_enter Tryz.func69,Tryz.ntmps69
 go_wp2
 go_loopg [] M (fun g wr=>∃j,g=M - j∧j≤M∧Rd wr b s (k+j) o∧Upd w wr b∧Hid (j+((l.drop (k+j)).takeWhile Lexy.isNameB).length=M))
 case atStart=>exact⟨0,rfl,Nat.zero_le _,h,Upd.refl _ _,hid (by rw[Nat.zero_add];exact HT.out)⟩
 case round=>
  obtain⟨j,hg,hjM,hr,hu,H⟩:=hrel
  have HG:=hid hg;clear hg
  clear hp0
  obtain⟨k',hk'⟩:∃k',k+j=k':=⟨_,rfl⟩
  rw[hk'] at hr H
  have HK:=hid hk'
  have hkk:k'≤s.size:=by omega
  clear hk'
  have hs0:=hr.text;have hp0:=hr.place;have hf:=hr.free 1
  by_cases hlt:k'<s.size
  ·obtain⟨c,hc⟩:∃c,l[k']? =some c:=⟨_,List.getElem?_eq_getElem (by rw[HS.out];exact hlt)⟩
   have hl1:decide ((k':Int)<s.size)=true:=by simp;omega
   have hi:=fun w=>run_at s c (k':Int) (by omega) (by rw[HL.out];exact hc) w
   have hd:l.drop k'=c :: l.drop (k'+1):=by
    obtain⟨h1,h2⟩:=List.getElem?_eq_some_iff.1 hc
    rw[List.drop_eq_getElem_cons h1,h2]
   have HC:=hid hc;clear hc
   have HD:=hid hd;clear hd
   cases hpc:Lexy.isNameB c with
   | true=>
    have H1:Hid (j+1+((l.drop (k'+1)).takeWhile Lexy.isNameB).length=M):=by
     have:=H.out;rw[HD.out,tw_cons hpc] at this;exact hid (by omega)
    have hj1:j+1≤M:=by have:=H1.out;omega
    have HP:=hid hpc;clear hpc
    go_wp2
    go_quiet ((go_at_call 70;exact Calls.quiet_of ((name1_any c _).mono fun _ _ ⟨he,hw⟩=>⟨by rw[he,HP.out],0,hw.symm⟩)))
    go_wp2
    go_roundg (M - (j+1))
    case measure=>rw[HG.out];omega
    case rel=>exact⟨j+1,rfl,hj1,(hr.drewN _).moveI _ _ (by rw[←HK.out];omega),(hu.drewN _).set (.inl rfl) _,by rw[←Nat.add_assoc,HK.out];exact H1⟩
   | false=>
    have HJ:Hid (M=j):=by
     have:=H.out;rw[HD.out,tw_stop hpc] at this;exact hid (by omega)
    have HP:=hid hpc;clear hpc
    have hle:(k:Int)≤(k':Int):=by have:=HK.out;omega
    have hle2:(k':Int)≤(s.size:Int):=by omega
    go_wp2
    go_quiet ((go_at_call 70;exact Calls.quiet_of ((name1_any c _).mono fun _ _ ⟨he,hw⟩=>⟨by rw[he,HP.out],0,hw.symm⟩)))
    go_wp2
    go_quiet (fail)
    go_wp2
    go_ret
    rw[HJ.out,HK.out]
    exact⟨rfl,hr,(hu.drewN _).drewN _⟩
  ·have hl1:decide ((k':Int)<s.size)=false:=by simp;omega
   have HJ:Hid (M=j):=by
    have:=H.out;rw[List.drop_eq_nil_of_le (by rw[HS.out];omega)] at this;exact hid (by simpa using this.symm)
   have hle:(k:Int)≤(k':Int):=by have:=HK.out;omega
   have hle2:(k':Int)≤(s.size:Int):=by omega
   go_wp2
   go_quiet (fail)
   go_wp2
   go_quiet (fail)
   go_wp2
   go_ret
   rw[HJ.out,HK.out]
   exact⟨rfl,hr,(hu.drewN _).drewN _⟩
end Go.Proofs.YtflmjbmdmoifhaaGreatDoor.Jl
namespace Go.Proofs.YtflmjbmdmoifhaaGreatDoor.Jl
open Go.Lib (hid)
open Go.RowKit
def tokV (t:Lexy.Tk) (lo hi:Nat):Value:= .agg #[.int .i64 (t.kind:Int),.int .i64 (lo:Int),.int .i64 (hi:Int),.string (bytes t.text),.int .i64 (t.num:Int)]
theorem h1size {w w1:World} {o:Obj} {b:Nat} (h:Upd (w.alloc o) w1 b):w.heap.size<w1.heap.size:=by have:=h.size;simp at this;omega
theorem info_tok5:(Tryz.prog.info? 58).map (·.size)=some 5:=by kernel_rfl
theorem tok_one (a b c d:Int) (x:ByteArray):(#[.int .i64 a,.int .i64 b,.int .i64 c,.string x,.int .i64 d]:Array Value).all (·.oneCell')=true:=by simp[Value.oneCell']
set_option maxRecDepth 100000 in
set_option maxHeartbeats 1000000 in
theorem name_any (b:Nat) (s:ByteArray) (k:Nat) (o:Value) (w:World) (h:Rd w b s k o) (he:Env w) (hb:4≤b) (hk:k≤s.size) (hm:s.size≤1000000):
    Calls Tryz.prog 47 #[.pointer (some ⟨b,0,none⟩)] w fun e w'=>
      e= .returned (tokV ⟨if (s.data.toList.drop k).take (Lexy.nameLen (s.data.toList.drop k))∈Lexy.kws then 5 else 1,(s.data.toList.drop k).take (Lexy.nameLen (s.data.toList.drop k)),0⟩ 0 0)∧
      Rd w' b s (k+Lexy.nameLen (s.data.toList.drop k)) o∧Upd w w' b:=by
  have hlt:=Box.lt h
  obtain⟨n,hn⟩:∃n,Lexy.nameLen (s.data.toList.drop k)=n:=⟨_,rfl⟩
  have hrun:=hid (fun w (h:Rd w b s k o)=>run_name b s k o w h hk hm)
  have hn':((s.data.toList.drop k).takeWhile Lexy.isNameB).length=n:=hn
  rw[hn'] at hrun
  rw[hn]
  obtain⟨x,hx⟩:∃x,s.extract k (k+n)=x:=⟨_,rfl⟩
  have hxl:(s.data.toList.drop k).take n=x.data.toList:=by
    rw[←hx];simp
  rw[hx] at hrun
  rw[hxl]
  have hbx:bytes x.data.toList=x:=by cases x;simp[bytes]
  have HBX:=hid hbx
  clear hn hn' hx hxl hbx
  have HC:Hid (∀(w:World) (g:Nat),Box w g 9 (wordCells Lexy.kws)→Calls Tryz.prog 13 #[.slice (some ⟨g,0,none⟩) 17 17,.string x] w fun e w'=>e= .returned (.bool (decide (x.data.toList∈Lexy.kws)))∧w=w'):=
    fun w g hc=>contains_words Lexy.kws 17 rfl (by omega) x g w hc
  by_cases hk2:x.data.toList∈Lexy.kws
  all_goals
    first
    | (have hd:decide (x.data.toList∈Lexy.kws)=true:=by simpa using hk2
       rw[if_pos hk2]
       rw[hd] at HC
       clear hd)
    | (have hd:decide (x.data.toList∈Lexy.kws)=false:=by simpa using hk2
       rw[if_neg hk2]
       rw[hd] at HC
       clear hd)
    clear hk2
    go_enter Tryz.func47,Tryz.ntmps47
    go_wp2_with fail
    refine (hrun.out _ (Box.alloc h _)).mono ?_
    rintro e w1 ⟨rfl,hr1,hu1⟩
    go_wp2_with fail
    have hsz:=h1size hu1
    have he1:Env w1:=(he.alloc (by omega) _).upd hu1 hb (by simp;omega)
    have hx1:Box w1 w.heap.size 58 #[.int .i64 0,.int .i64 0,.int .i64 0,.string ⟨#[]⟩,.int .i64 0]:=Box.grown (Box.new w _ _) hu1 (by simp;omega)
    refine (fields_kw _ he1).mono ?_
    rintro e w2 ⟨rfl,rfl⟩
    go_wp2_with fail
    refine (HC.out _ _ (Box.new w1 _ _)).mono ?_
    rintro e w3 ⟨rfl,rfl⟩
    have hx2:=Box.alloc hx1 (.cells (wordCells Lexy.kws) 9)
    go_wp2_with (refine wpList_store_box rfl 58 (.tmp 2) (.tmp 12) rfl w.heap.size #[.int .i64 _,.int .i64 0,.int .i64 0,.string x,.int .i64 0] rfl rfl 58 _ hx2 info_tok5 rfl (tok_one _ _ _ _ _) ?_;intro w3 hx3 hu3 hz3)
    refine bodyPost_ret (results_box rfl _ _ w.heap.size 58 _ _ rfl hx3 Tryz.underlying58 rfl info_tok5) rfl ?_
    refine⟨by unfold tokV;rw[HBX.out];rfl,Box.grown (Box.alloc hr1 _) hu3 (by simp;omega),?_⟩
    exact ((((Upd.refl w b).alloc _).trans hu1).alloc _).far hu3 (Nat.le_refl _)
end Go.Proofs.YtflmjbmdmoifhaaGreatDoor.Jl
namespace Go.Proofs.YtflmjbmdmoifhaaGreatDoor.Jl
open Go.Lib (hid)
open Go.RowKit
theorem peek_any (b:Nat) (s:ByteArray) (k j:Nat) (o:Value) (w:World) (h:Rd w b s k o) (hk:k≤s.size) (hm:s.size≤1000000) (hj:j≤1000):
  Calls Tryz.prog 44 #[.pointer (some ⟨b,0,none⟩),.int .i64 (j:Int)] w fun e w'=>e= .returned (.int .u8 ((((s.data.toList.drop k)[j]?).getD 0).toNat:Int))∧∃n,w'=w.drewN n:=by
 rw[List.getElem?_drop]
 by_cases hlt:k+j<s.size
 ·have hx:k+j<s.data.toList.length:=by simpa using hlt
  have hg:s.data.toList[k+j]? =some s.data.toList[k+j]:=List.getElem?_eq_getElem hx
  rw[hg]
  exact peek_in b s k j _ w h.text h.place hm hj (by omega) hlt hg
 ·rw[List.getElem?_eq_none (by simp;omega)]
  exact peek_out b s k j w h.text h.place hm hj (by omega) (by omega)
def hexText:Lexy.Bs:=[48,49,50,51,52,53,54,55,56,57,97,98,99,100,101,102]
def hexI (c:UInt8):Int:=match Lexy.hexv c with | some x=>(x.toNat:Int) | none=> -1
theorem hexI_eq:∀c:UInt8,Lib.indexByte hexText c=hexI c:=by
 have h:∀n:Fin 256,Lib.indexByte hexText (UInt8.ofNat n)=hexI (UInt8.ofNat n):=by decide+kernel
 intro c
 have:=h ⟨c.toNat,c.toNat_lt⟩
 simpa using this
theorem hexI_bd (c:UInt8): -1≤hexI c∧hexI c≤15:=by
 have h:∀n:Fin 256, -1≤hexI (UInt8.ofNat n)∧hexI (UInt8.ofNat n)≤15:=by decide+kernel
 have:=h ⟨c.toNat,c.toNat_lt⟩
 simpa using this
theorem hex_any (c:UInt8) (w:World):Calls Tryz.prog 102 #[.int .u8 (c.toNat:Int)] w fun e w'=>e= .returned (.int .i64 (hexI c))∧w=w':=by
 have HI:Hid (∀w,Calls Tryz.prog 45 #[.string (bytes hexText),.int .u8 (c.toNat:Int)] w fun e w'=>e= .returned (.int .i64 (hexI c))∧w=w'):=by
  intro w
  refine (index_byte (bytes hexText) (c.toNat:Int) w).mono fun e w' ⟨he,hw⟩=>⟨?_,hw.symm⟩
  rw[he, ←hexI_eq]
  have e1:((c.toNat:Int).toNat).toUInt8=c:=by simp
  have e2:(bytes hexText).data.toList=hexText:=rfl
  rw[e1,e2]
 go_enter Tryz.func102,Tryz.ntmps102
 go_wp2_with (go_at_call 45;refine (HI.out _).mono ?_;rintro e w' ⟨rfl,rfl⟩)
 go_ret
 exact⟨rfl,rfl⟩
theorem hexI_neg {c:UInt8} (h:¬0≤hexI c):Lexy.hexv c=none:=by
 unfold hexI at h
 cases hc:Lexy.hexv c with
 | none=>rfl
 | some x=>rw[hc] at h;simp at h
theorem hexI_pos {c:UInt8} (h:0≤hexI c):∃x,Lexy.hexv c=some x∧hexI c=(x.toNat:Int):=by
 unfold hexI at h ⊢
 cases hc:Lexy.hexv c with
 | none=>rw[hc] at h;simp at h
 | some x=>exact⟨x,rfl,rfl⟩
theorem or_hex:∀a b:Fin 16,bits .or .i64 (((a:Nat):Int) * 16) ((b:Nat):Int) % 256=(((a:Nat) * 16+(b:Nat):Nat):Int):=by decide+kernel
def escV (l:Lexy.Bs):UInt8×Nat:=(Lexy.esc l).getD (0,0)
def escC (c:UInt8) (X Y:Int):UInt8×Nat:=
 if c=34∨c=92 then (c,1) else if c=110 then (10,1) else if c=116 then (9,1) else if c=120∧0≤X∧0≤Y then (UInt8.ofNat (X.toNat * 16+Y.toNat),3) else (0,0)
theorem escV_eq (l:Lexy.Bs):escV l=escC ((l[0]?).getD 0) (hexI ((l[1]?).getD 0)) (hexI ((l[2]?).getD 0)):=by
 have h0:hexI 0= -1:=by decide
 unfold escV escC
 cases l with
 | nil=>simp[Lexy.esc]
 | cons c r=>
  simp only[Lexy.esc,List.getElem?_cons_zero,Option.getD_some]
  by_cases h1:c=34∨c=92
  ·rw[if_pos (by simpa using h1),if_pos h1];rfl
  rw[if_neg (by simpa using h1),if_neg h1]
  by_cases h2:c=110
  ·rw[if_pos (by simpa using h2),if_pos h2];rfl
  rw[if_neg (by simpa using h2),if_neg h2]
  by_cases h3:c=116
  ·rw[if_pos (by simpa using h3),if_pos h3];rfl
  rw[if_neg (by simpa using h3),if_neg h3]
  by_cases h4:c=120
  ·rw[if_pos (by simpa using h4)]
   cases r with
   | nil=>simp[h0]
   | cons a r=>
    cases r with
    | nil=>simp[h0]
    | cons d r=>
     simp only[List.getElem?_cons_succ,List.getElem?_cons_zero,Option.getD_some]
     by_cases hx:0≤hexI a
     ·by_cases hy:0≤hexI d
      ·obtain⟨x,ex,ex2⟩:=hexI_pos hx
       obtain⟨y,ey,ey2⟩:=hexI_pos hy
       rw[if_pos ⟨h4,hx,hy⟩,ex,ey,ex2,ey2]
       simp
      ·rw[if_neg (fun h=>hy h.2.2),hexI_neg hy]
       cases Lexy.hexv a<;>rfl
     ·rw[if_neg (fun h=>hx h.2.1),hexI_neg hx]
      rfl
  ·rw[if_neg (by simpa using h4),if_neg (fun h=>h4 h.1)]
   rfl
theorem escC_a {c:UInt8} (X Y:Int) (h:c=34∨c=92):escC c X Y=(c,1):=by unfold escC;rw[if_pos h]
theorem escC_n (X Y:Int):escC 110 X Y=(10,1):=by simp[escC]
theorem escC_t (X Y:Int):escC 116 X Y=(9,1):=by simp[escC]
theorem escC_x (m n:Nat):escC 120 (m:Int) (n:Int)=(UInt8.ofNat (m * 16+n),3):=by simp[escC]
theorem escC_no {c:UInt8} (X Y:Int) (h1:¬(c=34∨c=92)) (h2:c≠110) (h3:c≠116) (h4:¬(c=120∧0≤X∧0≤Y)):escC c X Y=(0,0):=by
 unfold escC;rw[if_neg h1,if_neg h2,if_neg h3,if_neg h4]
set_option maxRecDepth 100000 in
set_option maxHeartbeats 1000000 in
theorem escape_any (b:Nat) (s:ByteArray) (k:Nat) (o:Value) (w:World) (h:Rd w b s k o) (hk:k≤s.size) (hm:s.size≤1000000):
  Calls Tryz.prog 72 #[.pointer (some ⟨b,0,none⟩)] w fun e w'=>
   e= .returned (.tuple #[.int .u8 ((escV (s.data.toList.drop k)).1.toNat:Int),.int .i64 ((escV (s.data.toList.drop k)).2:Int)])∧∃n,w'=w.drewN n:=by
 obtain⟨l,hl⟩:∃l,s.data.toList.drop k=l:=⟨_,rfl⟩
 have P0:=hid (fun w (h:Rd w b s k o)=>peek_any b s k 0 o w h hk hm (by omega))
 have P1:=hid (fun w (h:Rd w b s k o)=>peek_any b s k 1 o w h hk hm (by omega))
 have P2:=hid (fun w (h:Rd w b s k o)=>peek_any b s k 2 o w h hk hm (by omega))
 rw[hl] at P0 P1 P2 ⊢
 clear hl
 obtain⟨c,hc⟩:∃c,(l[0]?).getD 0=c:=⟨_,rfl⟩
 obtain⟨x,hx⟩:∃x,(l[1]?).getD 0=x:=⟨_,rfl⟩
 obtain⟨y,hy⟩:∃y,(l[2]?).getD 0=y:=⟨_,rfl⟩
 have HX:=hid (fun w=>hex_any x w)
 have HY:=hid (fun w=>hex_any y w)
 rw[escV_eq l,hc,hx,hy]
 rw[hc] at P0
 rw[hx] at P1
 rw[hy] at P2
 have hbx:=hexI_bd x
 have hby:=hexI_bd y
 obtain⟨X,hX⟩:∃X,hexI x=X:=⟨_,rfl⟩
 obtain⟨Y,hY⟩:∃Y,hexI y=Y:=⟨_,rfl⟩
 rw[hX] at HX hbx ⊢
 rw[hY] at HY hby ⊢
 clear hX hY hc hx hy
 obtain⟨hx1,hx2⟩:=hbx
 obtain⟨hy1,hy2⟩:=hby
 by_cases h34:c=34∨c=92
 ·rw[escC_a X Y h34]
  rcases h34 with rfl | rfl
  all_goals
   go_enter Tryz.func72,Tryz.ntmps72
   go_wp2_with fail
   refine (P0.out _ h).mono ?_
   rintro e w1 ⟨rfl,n1,rfl⟩
   go_wp2
   go_ret2
   exact⟨rfl,_,rfl⟩
 by_cases h110:c=110
 ·subst h110
  rw[escC_n X Y]
  go_enter Tryz.func72,Tryz.ntmps72
  go_wp2_with fail
  refine (P0.out _ h).mono ?_
  rintro e w1 ⟨rfl,n1,rfl⟩
  go_wp2
  go_ret2
  exact⟨rfl,_,rfl⟩
 by_cases h116:c=116
 ·subst h116
  rw[escC_t X Y]
  go_enter Tryz.func72,Tryz.ntmps72
  go_wp2_with fail
  refine (P0.out _ h).mono ?_
  rintro e w1 ⟨rfl,n1,rfl⟩
  go_wp2
  go_ret2
  exact⟨rfl,_,rfl⟩
 by_cases h120:c=120
 ·subst h120
  clear h34 h110 h116
  by_cases hX0:0≤X
  ·by_cases hY0:0≤Y
   ·obtain⟨m,rfl⟩:=Int.eq_ofNat_of_zero_le hX0
    obtain⟨n,rfl⟩:=Int.eq_ofNat_of_zero_le hY0
    rw[escC_x]
    have hor:Hid (bits .or .i64 ((m:Int) * 16) (n:Int) % 256=((UInt8.ofNat (m * 16+n)).toNat:Int)):=by
     have e:(UInt8.ofNat (m * 16+n)).toNat=m * 16+n:=by simp;omega
     rw[e]
     exact or_hex ⟨m,by omega⟩ ⟨n,by omega⟩
    go_enter Tryz.func72,Tryz.ntmps72
    go_wp2_with fail
    refine (P0.out _ h).mono ?_
    rintro e w1 ⟨rfl,n1,rfl⟩
    go_wp2_with fail
    refine (P1.out _ (h.drewN _)).mono ?_
    rintro e w1 ⟨rfl,n2,rfl⟩
    go_wp2_with fail
    refine (HX.out _).mono ?_
    rintro e w1 ⟨rfl,rfl⟩
    go_wp2_with fail
    refine (P2.out _ (h.drewN _)).mono ?_
    rintro e w1 ⟨rfl,n3,rfl⟩
    go_wp2_with fail
    refine (HY.out _).mono ?_
    rintro e w1 ⟨rfl,rfl⟩
    go_wp2_with fail
    go_ret2
    exact⟨by rw[hor.out];rfl,_,rfl⟩
   ·have e1:decide (0≤X)=true:=by simpa using hX0
    have e2:decide (0≤Y)=false:=by simpa using hY0
    rw[escC_no X Y (by decide) (by decide) (by decide) (fun h=>hY0 h.2.2)]
    go_enter Tryz.func72,Tryz.ntmps72
    go_wp2_with fail
    refine (P0.out _ h).mono ?_
    rintro e w1 ⟨rfl,n1,rfl⟩
    go_wp2_with fail
    refine (P1.out _ (h.drewN _)).mono ?_
    rintro e w1 ⟨rfl,n2,rfl⟩
    go_wp2_with fail
    refine (HX.out _).mono ?_
    rintro e w1 ⟨rfl,rfl⟩
    go_wp2_with fail
    refine (P2.out _ (h.drewN _)).mono ?_
    rintro e w1 ⟨rfl,n3,rfl⟩
    go_wp2_with fail
    refine (HY.out _).mono ?_
    rintro e w1 ⟨rfl,rfl⟩
    go_wp2_with fail
    go_ret2
    exact⟨rfl,_,rfl⟩
  ·have e1:decide (0≤X)=false:=by simpa using hX0
   rw[escC_no X Y (by decide) (by decide) (by decide) (fun h=>hX0 h.2.1)]
   go_enter Tryz.func72,Tryz.ntmps72
   go_wp2_with fail
   refine (P0.out _ h).mono ?_
   rintro e w1 ⟨rfl,n1,rfl⟩
   go_wp2_with fail
   refine (P1.out _ (h.drewN _)).mono ?_
   rintro e w1 ⟨rfl,n2,rfl⟩
   go_wp2_with fail
   refine (HX.out _).mono ?_
   rintro e w1 ⟨rfl,rfl⟩
   go_wp2_with fail
   refine (P2.out _ (h.drewN _)).mono ?_
   rintro e w1 ⟨rfl,n3,rfl⟩
   go_wp2_with fail
   refine (HY.out _).mono ?_
   rintro e w1 ⟨rfl,rfl⟩
   go_wp2_with fail
   go_ret2
   exact⟨rfl,_,rfl⟩
 ·rw[escC_no X Y h34 h110 h116 (fun h=>h120 h.1)]
  have n1:((c.toNat:Int)==34)=false:=byte_ne (d:=34) (fun e=>h34 (.inl e))
  have n2:((c.toNat:Int)==92)=false:=byte_ne (d:=92) (fun e=>h34 (.inr e))
  have n3:((c.toNat:Int)==110)=false:=byte_ne (d:=110) h110
  have n4:((c.toNat:Int)==116)=false:=byte_ne (d:=116) h116
  have n5:((c.toNat:Int)==120)=false:=byte_ne (d:=120) h120
  clear h34 h110 h116 h120
  go_enter Tryz.func72,Tryz.ntmps72
  go_wp2_with fail
  refine (P0.out _ h).mono ?_
  rintro e w1 ⟨rfl,m1,rfl⟩
  go_wp2
  go_ret2
  exact⟨rfl,_,rfl⟩
end Go.Proofs.YtflmjbmdmoifhaaGreatDoor.Jl
