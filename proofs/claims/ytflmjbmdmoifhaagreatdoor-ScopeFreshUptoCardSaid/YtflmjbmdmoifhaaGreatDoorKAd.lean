/-
  Texts that the law leans on: SmB, SmC, SmD, SmE. Conditions: as each says.
-/
import Derived.Test.YtflmjbmdmoifhaaGreatDoorKAc
import Derived.StillTailTactics
import Derived.BigQuiet
import Derived.BigRegion
import Derived.Deep.DeepCutAuto
import Derived.Test.YtflmjbmdmoifhaaGreatDoorShelf
import Derived.Test.YtflmjbmdmoifhaaGreatDoorKAa
set_option linter.unusedSimpArgs false
set_option linter.unusedVariables false
namespace Go.Proofs.YtflmjbmdmoifhaaGreatDoor
open Go.Lib (hid)
open Go.RowKit
theorem within_room (p:Option Addr) (d:Nat) (w:World):Calls Tryz.prog 41 #[.pointer p,.int .i64 (d:Int)] w fun e w'=>e= .returned (at_ (w.heap.size+1) 0)∧Box w' (w.heap.size+1) 72 (rmc w.heap.size d (.pointer p))∧MapF natRdr w' w.heap.size 0 Scopy.empty∧Below w.heap.size w w'∧w'.heap.size=w.heap.size+2:=by
 have hmm:=@run_makeMap Tryz.prog
 go_enter Tryz.func41,Tryz.ntmps41
 go_wp2
 go_ret
 refine⟨rfl,?_,(MapF.made natRdr w).below (below1 _ _),(below1 w _).trans ((below1 (w.alloc (.map #[] 0)) _).mono (by simp)),by simp⟩
 have:=Box.new (w.alloc (.map #[] 0)) 72 (rmc w.heap.size d (.pointer p))
 simpa [rmc] using this
theorem parts_dec:(Tryz.prog.info? 36).map (fun i=>(i.zero,i.size,i.bytes))=some (some (.agg #[.int .i64 0,.string ⟨#[]⟩,.int .i64 0,.bool false]),4,40):=by kernel_rfl
theorem parts_use:(Tryz.prog.info? 39).map (fun i=>(i.zero,i.size,i.bytes))=some (some (.agg #[.string ⟨#[]⟩,.int .i64 0]),2,24):=by kernel_rfl
theorem parts_of {P:Program} {t:TypeId} {z:Value} {k b:Nat} (h:(P.info? t).map (fun i=>(i.zero,i.size,i.bytes))=some (some z,k,b)):∃i,P.info? t=some i∧i.zero=some z∧i.size=k∧i.bytes=b:=by
 cases hi:P.info? t with
 | none=>rw[hi] at h;cases h
 | some i=>
  rw[hi] at h
  simp only[Option.map_some,Option.some.injEq,Prod.mk.injEq] at h
  exact⟨i,rfl,h.1,h.2.1,h.2.2⟩
structure Tells (w:World) (LS:Nat→Prop) (g o b mb c:Nat) (C:Array Value) (k nu:Int) (t:List UInt8) (v:Value) (r0:Scopy.Room) (out:Value):Prop where
 node:Box w g 24 C
 cells:Cells4 C o (nc k nu t v)
 room:Box w b 72 (rmc mb r0.deep out)
 map:MapF natRdr w mb c r0.f
 ng:¬LS g
 nb:¬LS b
 nm:¬LS mb
 gb:g≠b
 gm:g≠mb
 bm:b≠mb
 tl:t.length≤4000000
def TellOut (w:World) (l B:Nat) (kv:Value) (known:List (List UInt8)) (dk:Int) (nm:List UInt8) (LS:Nat→Prop) (s:Scopy.St) (kd:Int) (g o mb c:Nat) (C:Array Value) (k nu:Int) (t:List UInt8) (v:Value) (uv:Value) (e:Ending) (w':World):Prop:=
 e= .returned (.tuple #[])∧∃dv' C',Lk w' l B kv dk nm (Grow LS w w') ((Scopy.hs known dk nm).decl kd t s).1 dv' uv∧Box w' g 24 C'∧Same4 C C' o∧Cells4 C' o (nc k nu ((Scopy.hs known dk nm).decl kd t s).2 v)∧(∃c',c'≤((Scopy.hs known dk nm).decl kd t s).1.decls.length∧MapF natRdr w' mb c' ((Scopy.hs known dk nm).decl kd t s).1.top.f)∧Fr w w' (fun i=>LS i∨i=g∨i=mb)
set_option maxRecDepth 100000 in
set_option maxHeartbeats 8000000 in
theorem tell_any {w:World} {l B:Nat} {kv:Value} {dk:Int} {nm:List UInt8} {LS:Nat→Prop} {s:Scopy.St} {dv uv:Value} {g o b mb c:Nat} {C:Array Value} {k nu:Int} {t:List UInt8} {v:Value} {r0:Scopy.Room} {rest:List Scopy.Room} {out:Value} (known:List (List UInt8)) (kd:Int)
  (hl:Lk w l B kv dk nm LS s dv uv) (ht:Tells w LS g o b mb c C k nu t v r0 out) (hs:s.rooms=r0 :: rest) (hB:B≤w.heap.size) (hn:s.decls.length≤4000000) (hcd:c≤s.decls.length):
  Calls Tryz.prog 42 #[at_ l 0,at_ b 0,.int .i64 kd,at_ g o] w (TellOut w l B kv known dk nm LS s kd g o mb c C k nu t v uv):=by
 have HL:=hid hl
 have HT:=hid ht
 have HS:=hid hs
 have htop:s.top=r0:=by unfold Scopy.St.top;rw[hs];rfl
 have HTOP:=hid htop
 have l3:=hl.box.cell 3
 have r0c:=ht.room.cell 0
 have r1c:=ht.room.cell 1
 have g2:w.cell? ⟨g,o+2,none⟩=some (.string (byt t)):=by rw[ht.node.cell];exact ht.cells 2 (by omega)
 simp[lkc,rmc] at l3 r0c r1c
 rcases Scopy.decl_cases (known:=known) (dk:=dk) (nm:=nm) kd t s with⟨e0,e⟩ | ⟨e0,h1,e⟩ | ⟨e0,h1,e⟩
 ·have HE:=hid e
  have hne:(((s.e:Nat):Int) != 0)=true:=by simp[e0]
  clear e hs htop hl ht
  go_enter Tryz.func42,Tryz.ntmps42
  go_wp2_with fail
  refine bodyPost_ret (results_none rfl _ _ _) rfl ?_
  unfold TellOut
  rw[HE.out]
  exact⟨rfl,dv,C,HL.out.sets (fun g hg=>⟨HL.out.lt g hg,.inl hg⟩) (fun g hg=>hg.1),HT.out.node,Same4.refl C o,HT.out.cells,⟨c,hcd,by rw[show ((s,t):Scopy.St×List UInt8).1.top=r0 from HTOP.out];exact HT.out.map⟩,Fr.refl w _⟩
 ·have HE:=hid e
  rw[htop] at h1
  obtain⟨q,hq⟩:∃q,r0.f t=some q:=Option.isSome_iff_exists.1 h1
  have hne:(((s.e:Nat):Int) != 0)=false:=by simp[e0]
  have hlk:∀n,(Instr.lookup 70 (.map (some mb)) (.string (byt t)) true).run Tryz.prog (w.drewN n)= .ok (.tuple #[.int .i64 (q:Int),.bool true]) (w.drewN n):=fun n=>by
   have:=(ht.map.block (w':=w.drewN n) rfl).look_ok Tryz.underlying70 (zero_nat (w.drewN n)) t (by have:=ht.tl;unfold maxLen;omega)
   rw[hq] at this
   exact this
  clear e hs htop hl ht h1 hq
  go_enter Tryz.func42,Tryz.ntmps42
  go_upto_region 1 with fail
  go_quiet (fail)
  have HL1:=hid (HL.out.fr (Fr.drewN w nq (fun _=>False)) fun g _ h=>h)
  have hbn:Box (w.drewN nq) g 24 C:=HT.out.node
  have hmn:MapF natRdr (w.drewN nq) mb c r0.f:=HT.out.map.block rfl
  have hfr:=Fr.drewN w nq (fun i=>LS i∨i=g∨i=mb)
  obtain⟨W,hW⟩:∃W,w.drewN nq=W:=⟨_,rfl⟩
  rw[hW] at HL1 hbn hmn hfr ⊢
  have l3f:=HL1.out.box.frozen 3
  have l3c:=HL1.out.box.cell 3
  simp[lkc] at l3c
  clear hW hlk r0c r1c g2 l3
  go_wp2_with fail
  refine bodyPost_ret (results_none rfl _ _ _) rfl ?_
  unfold TellOut
  rw[HE.out]
  have hs3:=Fr.set W ⟨l,3,none⟩ (.int .i64 6)
  have hlk3:¬LS mb:=HT.out.nm
  refine⟨rfl,dv,C,(HL1.out.wrong 6).sets (fun g hg=>⟨by have:=HL1.out.lt g hg;simpa [World.setCell] using this,.inl hg⟩) (fun g hg=>hg.1),hs3.box hbn fun e2=>HT.out.ng (e2 ▸ HL1.out.lS),Same4.refl C o,HT.out.cells,?_,hfr.step hs3 fun i _ e2=> .inl (e2 ▸ HL1.out.lS)⟩
  refine⟨c,hcd,?_⟩
  rw[show ({s with e:=6}:Scopy.St).top=r0 from HTOP.out]
  exact hs3.mapf hmn fun e2=>hlk3 (e2 ▸ HL1.out.lS)
 ·have HE:=hid e
  have hne:(((s.e:Nat):Int) != 0)=false:=by simp[e0]
  have hlk:∀n,(Instr.lookup 70 (.map (some mb)) (.string (byt t)) true).run Tryz.prog (w.drewN n)= .ok (.tuple #[.int .i64 0,.bool false]) (w.drewN n):=fun n=>by
   have:=(ht.map.block (w':=w.drewN n) rfl).look_ok Tryz.underlying70 (zero_nat (w.drewN n)) t (by have:=ht.tl;unfold maxLen;omega)
   rw[htop] at h1
   rw[h1] at this
   exact this
  clear e hs htop hl ht h1
  go_enter Tryz.func42,Tryz.ntmps42
  go_upto_region 1 with fail
  go_quiet (fail)
  have HL1:=hid (HL.out.fr (Fr.drewN w nq (fun _=>False)) fun g _ h=>h)
  have hbn:Box (w.drewN nq) g 24 C:=HT.out.node
  have hrm:Box (w.drewN nq) b 72 (rmc mb r0.deep out):=HT.out.room
  have hmn:MapF natRdr (w.drewN nq) mb c r0.f:=HT.out.map.block rfl
  have hfr:=Fr.drewN w nq (fun i=>LS i∨i=g∨i=mb)
  have hBz:B≤(w.drewN nq).heap.size:=hB
  obtain⟨W,hW⟩:∃W,w.drewN nq=W:=⟨_,rfl⟩
  rw[hW] at HL1 hbn hmn hfr hrm hBz ⊢
  obtain⟨A,cap,hdv⟩:=own_slice HL1.out.decls
  obtain⟨n,hnn⟩:∃n,s.decls.length=n:=⟨_,rfl⟩
  have HN:=hid hnn
  rw[hnn] at hdv hn hcd
  subst hdv
  have HRM:=hid hrm
  have HMN:=hid hmn
  have HBN:=hid hbn
  have HFR:=hid hfr
  have p0:=hrm.cell 0
  have p2:=HL1.out.box.cell 1
  have p3:W.cell? ⟨g,o+2,none⟩=some (.string (byt t)):=by rw[hbn.cell];exact HT.out.cells 2 (by omega)
  simp[rmc,lkc] at p0 p2
  have hmD:MapF natRdr W.drew mb c r0.f:=hmn.block rfl
  have hcl:c<maxLen:=by unfold maxLen;omega
  have htl:t.length≤maxLen:=by have:=HT.out.tl;unfold maxLen;omega
  clear hW hlk r0c r1c g2 l3 hnn hrm hmn hbn hfr hB
  go_upto_region 4 with fail
  go_still_tail 13,(by kernel_rfl)
  change wpList _ _ _ _ _ W.drew
  go_wp2_with (refine wpList_mapf_store rfl (.tmp 34) (.tmp 38) (.tmp 43) 70 rfl 3 Tryz.underlying70 hmD rfl hcl t htl rfl n rfl ?_;intro w2 hm2 hu2 hz2;have HM2:=hid hm2;have HU2:=hid hu2;have HZ2:=hid hz2;clear hm2 hu2 hz2)
  have f2:Fr W w2 (fun i=>i=mb):=⟨HU2.out.os,HU2.out.tape,HU2.out.output,HU2.out.size,fun i hi hn=>HU2.out.block i hi (fun e=>hn (by injection e))⟩
  have HL2:=hid (HL1.out.fr f2 fun g hg e=>HT.out.nm (e ▸ hg))
  have HRM2:=hid (f2.box HRM.out HT.out.bm)
  have HBN2:=hid (f2.box HBN.out HT.out.gm)
  have HFR2:=hid (HFR.out.step f2 fun i _ e=> .inr (.inr e))
  have HBZ2:=hid (Nat.le_trans hBz f2.size)
  clear p0 p2 p3 hmD hcl htl HMN HRM HBN HFR f2 HU2 HZ2 HL1
  have p0:=HL2.out.box.cell 1
  have p1:w2.cell? ⟨g,o+2,none⟩=some (.string (byt t)):=by rw[HBN2.out.cell];exact HT.out.cells 2 (by omega)
  have p2:=HRM2.out.cell 1
  simp[rmc,lkc] at p0 p2
  obtain⟨i0,hi0,hz0,hz1,hz2⟩:=parts_of parts_dec
  have h1:Hid (∀u∈(dc ⟨kd,t,r0.deep,false⟩).toList,u.oneCell'=true):=fun u hu=>flat_one (f:=dc) dc_one [⟨kd,t,r0.deep,false⟩] u (by simpa [flat] using hu)
  have hBz2:B≤w2.heap.size+1:=by have:=HBZ2.out;omega
  have hdB:Hid (∀q,(Value.slice A n cap).ownBlock=some q→B≤q∧q<w2.heap.size):=hid (fun q hq=>HL2.out.decls.lt q hq)
  have hlB:=HL2.out.lB
  have hll:=HL2.out.box.lt
  have hgl:=HBN2.out.lt
  have hbl:=HRM2.out.lt
  have HOWN:Hid (w2.ownsRow B 36 4 (.slice A n cap) n (flat dc s.decls)):=by
   have:=HL2.out.decls
   rw[HN.out] at this
   exact this
  go_cut [] from 44 to 63 (fun wx=>∃dv',Lk wx l B kv dk nm (Grow LS w2 wx) {s with decls:=s.decls++[⟨kd,t,r0.deep,false⟩]} dv' uv∧Fr w2 wx LS)
  case first=>
   go_wp2_with fail
   go_region_law (refine step_append_lies _ rfl (.tmp 48) (.tmp 59) 26 rfl B 36 i0 _ 4 40 Tryz.underlying26 hi0 hz0 hz1 hz2 rfl (by decide) (.slice A n cap) n (flat dc s.decls) (by simp[Act.eval,Act.put]) (by exact HOWN.out.alloc _) ⟨w2.heap.size,0,none⟩ 1 1 (dc ⟨kd,t,r0.deep,false⟩).toList (by simp[Act.eval,Act.put]) rfl (by exact World.news_of_block (Box.new w2 _ (dc ⟨kd,t,r0.deep,false⟩))) h1.out (by omega) (by unfold maxLen;omega) (by omega) (by simpa using hBz2) (w2.heap.size+1) (by simp) ?_;intro g8 cap8 w8 hown8 hgr8 hor8 hlt8;have hb8:Box w8 l 53 (lkc kv (.slice A n cap) uv s.e dk nm):=(Box.drew (Box.alloc HL2.out.box (.cells (dc ⟨kd,t,r0.deep,false⟩) 36))).grown hgr8 (fun h=>by have:=hdB.out l h.symm;omega);have row8:=hb8.cell 1;have frow8:=hb8.frozen 1;simp[lkc] at row8)
   all_goals
    go_wp2_with fail
    go_meet
    exact HL2.out.app_decl ⟨kd,t,r0.deep,false⟩ HN.out HBZ2.out hown8 hgr8 hor8 hlt8
  case rest=>
   obtain⟨dv',hlw,hfw⟩:=hcut
   obtain⟨A2,cap2,hdv0⟩:=own_slice hlw.decls
   have hlen:(s.decls++[(⟨kd,t,r0.deep,false⟩:Scopy.Decl)]).length=n+1:=by rw[List.length_append,HN.out];rfl
   have hdv2:dv'= .slice A2 (n+1) cap2:=by rw[hdv0];show Value.slice A2 (s.decls++[(⟨kd,t,r0.deep,false⟩:Scopy.Decl)]).length cap2=_;rw[hlen]
   clear hdv0
   subst hdv2
   have HL3:=hid hlw
   have HBN3:=hid (hfw.box HBN2.out HT.out.ng)
   have HM3:Hid (MapF natRdr wc mb (c+1) (putF r0.f t (some n))):=hid (hfw.mapf HM2.out HT.out.nm)
   have HFR3:=hid (HFR2.out.step hfw fun i _ e=> .inl e)
   have HTL:Hid (({s with rooms:={s.top with f:=Scopy.put s.top.f t s.decls.length} :: s.rooms.tail,decls:=s.decls++[⟨kd,t,s.top.deep,false⟩]}:Scopy.St).top.f=putF r0.f t (some n)):=by
    show Scopy.put s.top.f t s.decls.length=putF r0.f t (some n)
    rw[HTOP.out,HN.out]
    rfl
   have HC1:Hid (c+1≤(s.decls++[(⟨kd,t,s.top.deep,false⟩:Scopy.Decl)]).length):=hid (by rw[List.length_append,HN.out];simp;omega)
   have HG2:Hid (g<w2.heap.size):=hid HBN2.out.lt
   have HSZ:Hid (∀i,LS i→i<w.heap.size):=hid HL.out.lt
   have HLS3:Hid (∀(W:World),wc.heap.size≤W.heap.size→∀i,Grow LS w2 wc i→Grow LS w W i):=hid fun W hW i hi=>by
    have h1:=HL.out.lt
    have h2:=HFR2.out.size
    obtain⟨h3,h4⟩:=hi
    refine⟨by omega,?_⟩
    rcases h4 with h4 | h4
    ·exact .inl h4
    ·right;omega
   have l1c:=hlw.box.cell 1
   have l4c:=hlw.box.cell 4
   have l5c:=hlw.box.cell 5
   simp[lkc] at l1c l4c l5c
   have hsub:IntKind.i64.wrap ((n:Int)+1 - 1)=(n:Int):=by rw[IntKind.wrap_i64];omega
   have ngf:=HBN3.out.frozen (o+2)
   have ngc:wc.cell? ⟨g,o+2,none⟩=some (.string (byt t)):=by rw[HBN3.out.cell];exact HT.out.cells 2 (by omega)
   have HOL:Hid (o+2<C.size):=by
    have h2:=HT.out.cells 2 (by omega)
    rcases Nat.lt_or_ge (o+2) C.size with q | q
    ·exact q
    ·rw[Array.getElem?_eq_none q] at h2;simp[nc] at h2
   clear hlw hfw hlen p0 p1 p2 hi0 hz0 hz1 hz2 h1 hBz2 hdB hlB hll hgl hbl HOWN HFR2 HBN2 HRM2 HL2 HM2
   by_cases hk:(n:Int)=dk
   ·have q1:((n:Int)==dk)=true:=by simp[hk]
    have q2:decide ((n:Int)=dk)=true:=by simp[hk]
    clear hk
    go_upto_region 6 with fail
    go_quiet (fail)
    go_wp2_with fail
    refine bodyPost_end (results_none rfl _ _ _) rfl ?_
    unfold TellOut
    rw[HE.out]
    have fn:=Fr.drewN wc nq (fun _=>False)
    have fs:=Fr.set (wc.drewN nq) ⟨g,o+2,none⟩ (.string (byt nm))
    have hif:(if ((s.decls.length:Nat):Int)=dk then nm else t)=nm:=by rw[HN.out];exact if_pos (by simpa using q2)
    have hw:Fr wc ((wc.drewN nq).setCell ⟨g,o+2,none⟩ (.string (byt nm))) (fun i=>i=g):=(fn.mono fun i _ e=>e.elim).trans fs
    have hng:¬Grow LS w2 wc g:=fun h=>by
     have h1:=HBN3.out.lt
     rcases h.2 with e | e
     ·exact HT.out.ng e
     ·have:=HG2.out;omega
    refine⟨rfl,.slice A2 (n+1) cap2,C.setIfInBounds (o+2) (.string (byt nm)),((HL3.out.fr hw fun i hi e=>hng (e ▸ hi)).sets (fun i hi=>HLS3.out _ hw.size i hi) (fun i hi=>hi.1)).state (by simp only[];rw[HTOP.out]) rfl rfl,Box.set (w:=wc.drewN nq) HBN3.out (o+2) _,Same4.text C o _,by simp only[hif];exact HT.out.cells.text,⟨c+1,HC1.out,by rw[HTL.out];exact hw.mapf HM3.out (fun e=>HT.out.gm e.symm)⟩,HFR3.out.step hw fun i _ e=> .inr (.inl e)⟩
   ·have q1:((n:Int)==dk)=false:=by simp[hk]
    have q2:decide ((n:Int)=dk)=false:=by simp[hk]
    go_upto_region 6 with fail
    go_quiet (fail)
    go_wp2_with fail
    refine bodyPost_end (results_none rfl _ _ _) rfl ?_
    unfold TellOut
    rw[HE.out]
    have fn:=Fr.drewN wc nq (fun _=>False)
    have hif:(if ((s.decls.length:Nat):Int)=dk then nm else t)=t:=by rw[HN.out];exact if_neg (fun h=>by rw[h] at q2;simp at q2)
    refine⟨rfl,.slice A2 (n+1) cap2,C,((HL3.out.fr fn fun g _ h=>h).sets (fun i hi=>HLS3.out _ (Nat.le_refl _) i hi) (fun i hi=>hi.1)).state (by simp only[];rw[HTOP.out]) rfl rfl,HBN3.out,Same4.refl C o,by simp only[hif];exact HT.out.cells,⟨c+1,HC1.out,by rw[HTL.out];exact HM3.out.block rfl⟩,HFR3.out.step fn fun i _ e=>e.elim⟩
end Go.Proofs.YtflmjbmdmoifhaaGreatDoor
namespace Go.Proofs.YtflmjbmdmoifhaaGreatDoor
open Go.Lib (hid)
open Go.RowKit
def KnAt (w:World) (kb:Nat) (known:List (List UInt8)) (v:Value):Prop:=
 ∃A cap,v= .slice A known.length cap∧known.length≤cap∧cap≤9223372036854775807∧(0<known.length→∃g o,A=some ⟨g,o,none⟩∧g<kb∧g<w.heap.size∧∀j,j<known.length→w.cell? ⟨g,o+j,none⟩=some (.string ((known.map byt).getD j ByteArray.empty)))
theorem KnAt.fr {w w1:World} {kb:Nat} {known:List (List UInt8)} {v:Value} {F:Nat→Prop} (h:KnAt w kb known v) (hf:Fr w w1 F) (hn:∀i,i<kb→¬F i):KnAt w1 kb known v:=by
 obtain⟨A,cap,e,h1,h2,h3⟩:=h
 refine⟨A,cap,e,h1,h2,fun hp=> ?_⟩
 obtain⟨g,o,e1,h4,h6,h5⟩:=h3 hp
 exact⟨g,o,e1,h4,by have:=hf.size;omega,fun j hj=>by rw[World.cell?_of_block (hf.block g h6 (hn g h4))];exact h5 j hj⟩
theorem known_any {w:World} {kb:Nat} {known:List (List UInt8)} {v:Value} (h:KnAt w kb known v) (x:List UInt8):
  Calls Tryz.prog 13 #[v,.string (byt x)] w fun e w'=>e= .returned (.bool (known.contains x))∧w'=w:=by
 obtain⟨A,cap,rfl,h1,h2,h3⟩:=h
 rcases Nat.eq_zero_or_pos known.length with h0 | hp
 ·have:=Tryz.slices_Contains_string_empty A cap (byt x) w
  rw[List.eq_nil_of_length_eq_zero h0]
  exact this
 ·obtain⟨g,o,rfl,_,_,h5⟩:=h3 hp
  have h:=Tryz.slices_Contains_string g o known.length cap (known.map byt) (byt x) w (by simp) (by omega) (fun j hj=>h5 j (by simpa using hj))
  have hn:Lib.containsS ((known.map byt).take known.length) (byt x)=known.contains x:=by
   rw[List.take_of_length_le (by simp),Bool.eq_iff_iff,Lib.containsS_iff]
   simp only[List.mem_map,List.contains_iff_mem]
   exact⟨fun ⟨y,hy,e⟩=>byt_inj e ▸ hy,fun hx=>⟨x,hx,rfl⟩⟩
  rw[hn] at h
  exact h
theorem decl_cells {w:World} {B n cap:Nat} {A:Option Addr} {ds:List Scopy.Decl} {k:Nat} {d:Scopy.Decl} (h:w.ownsRow B 36 4 (.slice A n cap) n (flat dc ds)) (hn:ds.length=n) (hk:ds[k]? =some d):
  ∃g,A=some ⟨g,0,none⟩∧B≤g∧g<w.heap.size∧n≤cap∧k<n∧w.cell? ⟨g,k * 4+2,none⟩=some (.int .i64 (d.deep:Int))∧w.cell? ⟨g,k * 4+3,none⟩=some (.bool d.caught)∧w.frozen? ⟨g,k * 4+3,none⟩=false∧
   (w.setCell ⟨g,k * 4+3,none⟩ (.bool true)).ownsRow B 36 4 (.slice A n cap) n (flat dc (ds.set k {d with caught:=true})):=by
 have hkl:k<ds.length:=(List.getElem?_eq_some_iff.1 hk).1
 rcases h.2 with⟨_,h0⟩ | ⟨g,cap',cur,hv,hb,hg,h1,h2,h3,h4⟩
 ·omega
 ·injection hv with hA _ hc
  subst hA hc
  have hgl:g<w.heap.size:=(Array.getElem?_eq_some_iff.1 hg).1
  have hfl:=flat_len (f:=dc) dc_size ds
  have cell:∀j,j<4→w.cell? ⟨g,k * 4+j,none⟩=(dc d).toList[j]? :=fun j hj=>by
   have hlt:j<(dc d).toList.length:=hj
   have e1:=flat_at (f:=dc) dc_size ds k d hk j _ (List.getElem?_eq_getElem hlt)
   have hb2:Box w g 36 cur:=hg
   rw[hb2.cell, ←Array.getElem?_toList,List.getElem?_eq_getElem hlt, ←e1, ←h4,List.getElem?_take,if_pos (by omega)]
  have hb2:Box w g 36 cur:=hg
  refine⟨g,rfl,hb,hgl,h1,by omega,cell 2 (by omega),cell 3 (by omega),hb2.frozen _,?_⟩
  have hset:=hb2.set (k * 4+3) (.bool true)
  have e5:cur.toList.take (n * 4)=flat dc ds:=h4
  refine⟨by rw[flat_len (f:=dc) dc_size,List.length_set,hn],.inr ⟨g,cap,cur.setIfInBounds (k * 4+3) (.bool true),rfl,hb,hset,h1,h2,by simpa using h3,?_⟩⟩
  rw[Array.toList_setIfInBounds,List.take_set,e5]
  have hsplit:ds=ds.take k++d :: ds.drop (k+1):=by
   have:=List.take_append_drop k ds
   rw[List.drop_eq_getElem_cons hkl,(List.getElem?_eq_some_iff.1 hk).2] at this
   exact this.symm
  have hlk:(ds.take k).length=k:=by simp;omega
  have e6:ds.set k {d with caught:=true}=ds.take k++{d with caught:=true} :: ds.drop (k+1):=by
   conv=>lhs;rw[hsplit]
   rw[List.set_append_right _ _ (by omega),hlk,Nat.sub_self]
   rfl
  rw[e6]
  conv=>lhs;rw[hsplit]
  rw[flat_append,flat_append,flat_cons,flat_cons]
  have hfk:=flat_len (f:=dc) dc_size (ds.take k)
  rw[hlk] at hfk
  rw[List.set_append_right _ _ (by omega),hfk,show k * 4+3 - k * 4=3 by omega]
  rfl
theorem mark_yes {ds:List Scopy.Decl} {k dp:Nat} {d:Scopy.Decl} (h:ds[k]? =some d) (hd:d.deep<dp):Scopy.mark ds k dp=ds.set k {d with caught:=true}:=by
 apply List.ext_getElem?
 intro j
 rw[Scopy.mark_get,List.getElem?_set]
 by_cases e:k=j
 ·subst e
  rw[h,if_pos rfl,if_pos (List.getElem?_eq_some_iff.1 h).1]
  simp[hd]
 ·rw[if_neg e]
  cases ds[j]? <;>simp[e]
theorem mark_no {ds:List Scopy.Decl} {k dp:Nat} {d:Scopy.Decl} (h:ds[k]? =some d) (hd:¬d.deep<dp):Scopy.mark ds k dp=ds:=by
 apply List.ext_getElem?
 intro j
 rw[Scopy.mark_get]
 by_cases e:k=j
 ·subst e
  rw[h]
  simp[hd]
 ·cases ds[j]? <;>simp[e]
theorem Lk.caught {w:World} {l B:Nat} {kv:Value} {dk:Int} {nm:List UInt8} {LS:Nat→Prop} {s:Scopy.St} {uv:Value} {A:Option Addr} {cap n g k:Nat} {ds:List Scopy.Decl} (h:Lk w l B kv dk nm LS s (.slice A n cap) uv) (hA:A=some ⟨g,0,none⟩) (hn:s.decls.length=n) (hd:ds.length=n) (hB:B≤g)
  (ho:(w.setCell ⟨g,k,none⟩ (.bool true)).ownsRow B 36 4 (.slice A n cap) n (flat dc ds)):Lk (w.setCell ⟨g,k,none⟩ (.bool true)) l B kv dk nm LS {s with decls:=ds} (.slice A n cap) uv:=by
 have fs:=Fr.set w ⟨g,k,none⟩ (.bool true)
 have hlB:=h.lB
 refine⟨fs.box h.box (by show ¬l=g;omega),by rw[hd];exact ho,fs.own h.uses fun q e e2=> ?_,h.ap,h.lB,h.lS,h.dS,h.uS,fun q hq=>by have:=h.lt q hq;have:=fs.size;omega⟩
 have e2:q=g:=e2
 subst e2
 exact h.ap q (by rw[hA];rfl) e
structure Uses (w:World) (LS RS:Nat→Prop) (g o M:Nat) (C:Array Value) (k nu:Int) (t:List UInt8) (v rv:Value) (rooms:List Scopy.Room):Prop where
 node:Box w g 24 C
 cells:Cells4 C o (nc k nu t v)
 rooms:RoomsAt w M RS rooms rv
 ng:¬LS g
 nR:∀i,RS i→¬LS i
 gR:¬RS g
 tl:t.length≤4000000
def UseOut (w:World) (l B:Nat) (kv:Value) (known:List (List UInt8)) (dk:Int) (nm:List UInt8) (LS:Nat→Prop) (s:Scopy.St) (g o:Nat) (C:Array Value) (k nu:Int) (t:List UInt8) (v:Value) (e:Ending) (w':World):Prop:=
 e= .returned (.tuple #[])∧∃dv' uv' C',Lk w' l B kv dk nm (Grow LS w w') ((Scopy.hs known dk nm).use t s).1 dv' uv'∧Box w' g 24 C'∧Same4 C C' o∧Cells4 C' o (nc k nu ((Scopy.hs known dk nm).use t s).2 v)∧Fr w w' (fun i=>LS i∨i=g)
set_option maxRecDepth 100000 in
set_option maxHeartbeats 8000000 in
theorem use_any {w:World} {l B kb:Nat} {kv:Value} {dk:Int} {nm:List UInt8} {LS RS:Nat→Prop} {s:Scopy.St} {dv uv:Value} {g o M:Nat} {C:Array Value} {k nu:Int} {t:List UInt8} {v rv:Value} {known:List (List UInt8)} {r0:Scopy.Room} {rest:List Scopy.Room}
  (hl:Lk w l B kv dk nm LS s dv uv) (hu:Uses w LS RS g o M C k nu t v rv s.rooms) (hs:s.rooms=r0 :: rest) (he:s.e=0) (htl:Scopy.Tells known s) (hB:B≤w.heap.size) (hn:s.uses.length≤4000000) (hn2:s.decls.length≤4000000) (hk:KnAt w kb known kv) (hkb:∀i,LS i→kb≤i):
  Calls Tryz.prog 39 #[at_ l 0,rv,at_ g o] w (UseOut w l B kv known dk nm LS s g o C k nu t v):=by
 have HL:=hid hl
 have HT:=hid hu
 have HS:=hid hs
 have HTE:=hid htl
 have HK:=hid hk
 have HKB:=hid hkb
 have htop:s.top=r0:=by unfold Scopy.St.top;rw[hs];rfl
 have HTOP:=hid htop
 obtain⟨pb,hpb,HRV⟩:∃b,rv=at_ b 0∧Hid (∀(W:World),Fr w W (fun _=>False)→b<W.heap.size∧¬LS b∧W.cell? ⟨b,1,none⟩=some (.int .i64 (r0.deep:Int))):=by
  have h1:=hu.rooms
  rw[hs] at h1
  obtain⟨b,mb,c,out,h1,h2,h3,h4,h5,h6,h7⟩:=h1
  exact⟨b,h1,hid (fun W hW=>⟨(hW.box h2 (fun h=>h)).lt,hu.nR b h5,(hW.box h2 (fun h=>h)).cell 1⟩)⟩
 subst hpb
 have hU:=Scopy.use_cases (known:=known) (dk:=dk) (nm:=nm) t s
 have HU:=hid hU
 clear hU hl hs htl hk hkb htop
 have HRM:=hid hu.rooms
 clear hu
 go_enter Tryz.func39,Tryz.ntmps39
 go_upto_region 1 with fail
 go_loopg [6] s.rooms.length (fun gg s6 wr=>∃(rs:List Scopy.Room) (RS2:Nat→Prop) (x:Value),s6=x∧rs.length≤gg∧Hid (RoomsAt w M RS2 rs x)∧Hid (∀i,RS2 i→RS i)∧Hid (Fr w wr (fun _=>False))∧Hid (Scopy.find rs t=Scopy.find s.rooms t)∧Hid (∀r∈rs,r∈s.rooms))
 case atStart=>exact⟨s.rooms,RS,_,rfl,Nat.le_refl _,HRM,hid (fun i h=>h),hid (Fr.refl w _),hid rfl,hid (fun r h=>h)⟩
 case round=>
  obtain⟨rs,RS2,x,hx,hg,HR,HR2,HFW,HF,HM⟩:=hrel
  cases rs with
  | nil=>
   have h6:x= .pointer none:=HR.out
   subst h6
   subst hx
   have hf0:Scopy.find s.rooms t=none:=HF.out.symm
   have HF0:=hid hf0
   clear hf0 HR HR2 HF HM HRV
   have hE:=HU.out
   have HL1:=hid (HL.out.fr HFW.out fun g _ h=>h)
   have HN1:=hid (HFW.out.box HT.out.node (fun h=>h))
   have HF1:=hid (HFW.out.mono (G:=fun i=>LS i∨i=g) fun i _ h=>h.elim)
   have HB1:Hid (B≤wr.heap.size):=hid (Nat.le_trans hB HFW.out.size)
   have hKW:KnAt wr kb known kv:=HK.out.fr HFW.out (fun i _ h=>h)
   have HKN:Hid (∀n,Calls Tryz.prog 13 #[kv,.string (byt t)] (wr.drewN n) fun e w'=>e= .returned (.bool (known.contains t))∧w'=wr.drewN n):=hid (fun n=>known_any (hKW.fr (Fr.drewN wr n (fun _=>False)) (fun i _ h=>h)) t)
   clear hKW
   have l0:wr.cell? ⟨l,0,none⟩=some kv:=by have:=HL1.out.box.cell 0;simpa [lkc] using this
   have g2:wr.cell? ⟨g,o+2,none⟩=some (.string (byt t)):=by rw[HN1.out.cell];exact HT.out.cells 2 (by omega)
   have HU2:Hid ((known.contains t=true∧(Scopy.hs known dk nm).use t s=({s with uses:=s.uses++[(t, -1)]},t))∨(known.contains t=false∧(Scopy.hs known dk nm).use t s=({s with e:=5},t))):=by
    rcases HU.out with⟨h,_⟩ | ⟨_,q,h,_⟩ | ⟨_,_,h1,h2⟩ | ⟨_,_,h1,h2⟩
    ·exact absurd he h
    ·rw[HF0.out] at h;cases h
    ·exact .inl ⟨h1,h2⟩
    ·exact .inr ⟨h1,h2⟩
   clear HU HF0 HTE HS
   rcases HU2.out with⟨hkc,hus⟩ | ⟨hkc,hus⟩
   ·rw[hkc] at HKN
    have HE:=hid hus
    clear hkc hus HU2
    go_upto_region 10 with fail
    go_quiet ((go_at_call 13;first | exact Calls.quiet_of_same (HKN.out _) | exact quiet_more_same (HKN.out _)))
    obtain⟨V,hV⟩:∃V,wr.drewN nq=V:=⟨_,rfl⟩
    have HL2:Hid (Lk V l B kv dk nm LS s dv uv):=hid (hV ▸ HL1.out.fr (Fr.drewN wr nq (fun _=>False)) fun g _ h=>h)
    have HN2:Hid (Box V g 24 C):=hid (hV ▸ HN1.out)
    have HF2:Hid (Fr w V (fun i=>LS i∨i=g)):=hid (hV ▸ HF1.out.step (Fr.drewN wr nq (fun _=>False)) fun i _ h=>h.elim)
    have HB2:Hid (B≤V.heap.size):=hid (hV ▸ HB1.out)
    rw[hV]
    clear hV l0 g2 HL1 HN1 HF1 HB1 HKN
    obtain⟨A,cap,huv⟩:=own_slice HL2.out.uses
    obtain⟨n,hnn⟩:∃n,s.uses.length=n:=⟨_,rfl⟩
    have HN:=hid hnn
    rw[hnn] at huv hn
    subst huv
    have p0:=HL2.out.box.cell 2
    have p1:V.cell? ⟨g,o+2,none⟩=some (.string (byt t)):=by rw[HN2.out.cell];exact HT.out.cells 2 (by omega)
    simp[lkc] at p0
    obtain⟨i0,hi0,hz0,hz1,hz2⟩:=parts_of parts_use
    have h1:Hid (∀u∈(uc (t, -1)).toList,u.oneCell'=true):=fun u hu=>flat_one (f:=uc) uc_one [(t, -1)] u (by simpa [flat] using hu)
    have hBz2:B≤V.heap.size+1:=by have:=HB2.out;omega
    have hdB:Hid (∀q,(Value.slice A n cap).ownBlock=some q→B≤q∧q<V.heap.size):=hid (fun q hq=>HL2.out.uses.lt q hq)
    have hlB:=HL2.out.lB
    have hll:=HL2.out.box.lt
    have hgl:=HN2.out.lt
    have HOWN:Hid (V.ownsRow B 39 2 (.slice A n cap) n (flat uc s.uses)):=by
     have:=HL2.out.uses
     rw[HN.out] at this
     exact this
    clear hnn
    go_upto_region 12 with fail
    go_region_law (refine step_append_lies _ rfl (.tmp 94) (.tmp 100) 27 rfl B 39 i0 _ 2 24 Tryz.underlying27 hi0 hz0 hz1 hz2 rfl (by decide) (.slice A n cap) n (flat uc s.uses) (by simp[Act.eval,Act.put]) (by exact HOWN.out.alloc _) ⟨V.heap.size,0,none⟩ 1 1 (uc (t, -1)).toList (by simp[Act.eval,Act.put]) rfl (by exact World.news_of_block (Box.new V _ (uc (t, -1)))) h1.out (by omega) (by unfold maxLen;omega) (by omega) (by simpa using hBz2) (V.heap.size+1) (by simp) ?_;intro g8 cap8 w8 hown8 hgr8 hor8 hlt8;have hb8:Box w8 l 53 (lkc kv dv (.slice A n cap) s.e dk nm):=(Box.drew (Box.alloc HL2.out.box (.cells (uc (t, -1)) 39))).grown hgr8 (fun h=>by have:=hdB.out l h.symm;omega);have row8:=hb8.cell 2;have frow8:=hb8.frozen 2;simp[lkc] at row8)
    all_goals
     go_wp2_with fail
     refine bodyPost_end (results_none rfl _ _ _) rfl ?_
     unfold UseOut
     rw[HE.out]
     obtain⟨uv',q1,q2⟩:=HL2.out.app_use (t, -1) HN.out HB2.out hown8 hgr8 hor8 hlt8
     refine⟨rfl,dv,uv',C,q1.sets (fun i hi=>⟨hi.1,?_⟩) (fun i hi=>hi.1),q2.box HN2.out HT.out.ng,Same4.refl C o,HT.out.cells,HF2.out.step q2 fun i _ e=> .inl e⟩
     rcases hi.2 with e | e
     ·exact .inl e
     ·right;have:=HF2.out.size;omega
   ·rw[hkc] at HKN
    have HE:=hid hus
    clear hkc hus HU2
    go_upto_region 10 with fail
    go_quiet ((go_at_call 13;first | exact Calls.quiet_of_same (HKN.out _) | exact quiet_more_same (HKN.out _)))
    obtain⟨V,hV⟩:∃V,wr.drewN nq=V:=⟨_,rfl⟩
    have HL2:Hid (Lk V l B kv dk nm LS s dv uv):=hid (hV ▸ HL1.out.fr (Fr.drewN wr nq (fun _=>False)) fun g _ h=>h)
    have HN2:Hid (Box V g 24 C):=hid (hV ▸ HN1.out)
    have HF2:Hid (Fr w V (fun i=>LS i∨i=g)):=hid (hV ▸ HF1.out.step (Fr.drewN wr nq (fun _=>False)) fun i _ h=>h.elim)
    rw[hV]
    clear hV l0 g2 HL1 HN1 HF1 HB1 HKN
    have l3f:=HL2.out.box.frozen 3
    have l3c:=HL2.out.box.cell 3
    simp[lkc] at l3c
    go_wp2_with fail
    refine bodyPost_ret (results_none rfl _ _ _) rfl ?_
    unfold UseOut
    rw[HE.out]
    have hs3:=Fr.set V ⟨l,3,none⟩ (.int .i64 5)
    exact⟨rfl,dv,uv,C,(HL2.out.wrong 5).sets (fun i hi=>⟨by have:=HL2.out.lt i hi;simpa [World.setCell] using this,.inl hi⟩) (fun i hi=>hi.1),hs3.box HN2.out fun e2=>HT.out.ng (e2 ▸ HL2.out.lS),Same4.refl C o,HT.out.cells,HF2.out.step hs3 fun i _ e2=> .inl (e2 ▸ HL2.out.lS)⟩
  | cons r rs=>
   obtain⟨b,mb,c,out,h1,h2,h3,h4,h5,h6,h7⟩:=HR.out
   subst h1
   subst hx
   have hrb:=HFW.out.box h2 (fun h=>h)
   have hrm:=HFW.out.mapf h3 (fun h=>h)
   have HR7:=hid h7
   have c0:=hrb.cell 0
   have c2:=hrb.cell 2
   have g2:wr.cell? ⟨g,o+2,none⟩=some (.string (byt t)):=by rw[(HFW.out.box HT.out.node (fun h=>h)).cell];exact HT.out.cells 2 (by omega)
   simp[rmc] at c0 c2
   have htl2:t.length≤maxLen:=by have:=HT.out.tl;unfold maxLen;omega
   cases hf:r.f t with
   | none=>
    have hlk:∀n,(Instr.lookup 70 (.map (some mb)) (.string (byt t)) true).run Tryz.prog (wr.drewN n)= .ok (.tuple #[.int .i64 0,.bool false]) (wr.drewN n):=fun n=>by
     have:=(hrm.block (w':=wr.drewN n) rfl).look_ok Tryz.underlying70 (zero_nat (wr.drewN n)) t htl2
     rw[hf] at this
     exact this
    have HF2:Hid (Scopy.find rs t=Scopy.find s.rooms t):=hid (by
     have:=HF.out
     rw[Scopy.find,hf] at this
     exact this)
    clear hrb hrm h2 h3 h7 HR HF hf htl2
    go_upto_region 3 with fail
    go_quiet (fail)
    go_wp2_with fail
    go_roundg rs.length
    case measure=>simp at hg;omega
    case rel=>exact⟨rs,_,_,rfl,Nat.le_refl _,HR7,hid (fun i h=>HR2.out i h.1),hid (HFW.out.trans (Fr.drewN wr nq _)),HF2,hid (fun r hr=>HM.out r (by simp[hr]))⟩
   | some q=>
    have hlk:∀n,(Instr.lookup 70 (.map (some mb)) (.string (byt t)) true).run Tryz.prog (wr.drewN n)= .ok (.tuple #[.int .i64 (q:Int),.bool true]) (wr.drewN n):=fun n=>by
     have:=(hrm.block (w':=wr.drewN n) rfl).look_ok Tryz.underlying70 (zero_nat (wr.drewN n)) t htl2
     rw[hf] at this
     exact this
    obtain⟨d,hd,hdn⟩:=HTE.out.room r (HM.out r (by simp)) t q hf
    have HD:=hid hd
    have hus:(Scopy.hs known dk nm).use t s=({s with uses:=s.uses++[(t,(q:Int))],decls:=Scopy.mark s.decls q r0.deep},if (q:Int)=dk then nm else t):=by
     have hff:Scopy.find s.rooms t=some q:=by rw[←HF.out,Scopy.find,hf]
     rcases HU.out with⟨h,_⟩ | ⟨_,q2,h,h2⟩ | ⟨_,h,_⟩ | ⟨_,h,_⟩
     ·exact absurd he h
     ·rw[hff] at h
      injection h with h
      subst h
      rw[h2,HTOP.out]
     ·rw[hff] at h;cases h
     ·rw[hff] at h;cases h
    have HE:=hid hus
    have HL1:=hid (HL.out.fr HFW.out fun g _ h=>h)
    have HN1:=hid (HFW.out.box HT.out.node (fun h=>h))
    have HF1:=hid (HFW.out.mono (G:=fun i=>LS i∨i=g) fun i _ h=>h.elim)
    clear hrb hrm h2 h3 h7 HR HF hf htl2 hd hdn hus HTE HU HR2 HM HR7
    go_upto_region 3 with fail
    go_quiet (fail)
    go_upto_region 5 with fail
    have hfv:Fr wr (wr.drewN nq) (fun _=>False):=Fr.drewN wr nq _
    obtain⟨V,hV⟩:∃V,wr.drewN nq=V:=⟨_,rfl⟩
    rw[hV] at hfv ⊢
    have HL2:=hid (HL1.out.fr hfv fun g _ h=>h)
    have HN2:=hid (hfv.box HN1.out (fun h=>h))
    have HF2:=hid (HF1.out.step hfv fun i _ h=>h.elim)
    have HB2:Hid (B≤V.heap.size):=hid (by have:=HF1.out.size;have:=hfv.size;omega)
    obtain⟨hpb1,hpb2,hpb3⟩:=HRV.out V (HFW.out.trans hfv)
    have HPB:=hid hpb2
    have HPL:=hid hpb1
    have HPC:=hid hpb3
    clear hV hlk c0 c2 g2 HL1 HN1 HF1 hfv HFW HRV hpb1 hpb2 hpb3
    obtain⟨A,cap,huv⟩:=own_slice HL2.out.uses
    obtain⟨n,hnn⟩:∃n,s.uses.length=n:=⟨_,rfl⟩
    have HN:=hid hnn
    rw[hnn] at huv hn
    subst huv
    have p0:=HL2.out.box.cell 2
    have p1:V.cell? ⟨g,o+2,none⟩=some (.string (byt t)):=by rw[HN2.out.cell];exact HT.out.cells 2 (by omega)
    simp[lkc] at p0
    obtain⟨i0,hi0,hz0,hz1,hz2⟩:=parts_of parts_use
    have h1:Hid (∀u∈(uc (t,(q:Int))).toList,u.oneCell'=true):=fun u hu=>flat_one (f:=uc) uc_one [(t,(q:Int))] u (by simpa [flat] using hu)
    have hBz2:B≤V.heap.size+1:=by have:=HB2.out;omega
    have hdB:Hid (∀q,(Value.slice A n cap).ownBlock=some q→B≤q∧q<V.heap.size):=hid (fun q hq=>HL2.out.uses.lt q hq)
    have hlB:=HL2.out.lB
    have hll:=HL2.out.box.lt
    have hgl:=HN2.out.lt
    have HOWN:Hid (V.ownsRow B 39 2 (.slice A n cap) n (flat uc s.uses)):=by
     have:=HL2.out.uses
     rw[HN.out] at this
     exact this
    clear hnn
    go_cut [] from 29 to 44 (fun wx=>∃uv',Hid (Lk wx l B kv dk nm (Grow LS V wx) {s with uses:=s.uses++[(t,(q:Int))]} dv uv')∧Hid (Fr V wx LS))
    case first=>
     go_wp2_with fail
     go_region_law (refine step_append_lies _ rfl (.tmp 33) (.tmp 40) 27 rfl B 39 i0 _ 2 24 Tryz.underlying27 hi0 hz0 hz1 hz2 rfl (by decide) (.slice A n cap) n (flat uc s.uses) (by simp[Act.eval,Act.put]) (by exact HOWN.out.alloc _) ⟨V.heap.size,0,none⟩ 1 1 (uc (t,(q:Int))).toList (by simp[Act.eval,Act.put]) rfl (by exact World.news_of_block (Box.new V _ (uc (t,(q:Int))))) h1.out (by omega) (by unfold maxLen;omega) (by omega) (by simpa using hBz2) (V.heap.size+1) (by simp) ?_;intro g8 cap8 w8 hown8 hgr8 hor8 hlt8;have hb8:Box w8 l 53 (lkc kv dv (.slice A n cap) s.e dk nm):=(Box.drew (Box.alloc HL2.out.box (.cells (uc (t,(q:Int))) 39))).grown hgr8 (fun h=>by have:=hdB.out l h.symm;omega);have row8:=hb8.cell 2;have frow8:=hb8.frozen 2;simp[lkc] at row8)
     all_goals
      go_wp2_with fail
      go_meet
      exact HL2.out.app_use (t,(q:Int)) HN.out HB2.out hown8 hgr8 hor8 hlt8
    case rest=>
     obtain⟨uv',HL3,HF3⟩:=hcut
     obtain⟨A2,cap2,hdv0⟩:=own_slice HL3.out.decls
     obtain⟨n2,hn3⟩:∃n,s.decls.length=n:=⟨_,rfl⟩
     have HN3:=hid hn3
     have hdv:dv= .slice A2 n2 cap2:=by rw[hdv0, ←hn3]
     clear hdv0
     subst hdv
     have ho:wc.ownsRow B 36 4 (.slice A2 n2 cap2) n2 (flat dc s.decls):=by
      have:=HL3.out.decls
      have e:({s with uses:=s.uses++[(t,(q:Int))]}:Scopy.St).decls.length=n2:=hn3
      rw[e] at this
      exact this
     obtain⟨g0,hA2,hg0,hgl0,hnc,hqn,d2,d3,d3f,hset⟩:=decl_cells ho hn3 HD.out
     subst hA2
     have HSET:=hid hset
     have l1c:=HL3.out.box.cell 1
     simp[lkc] at l1c
     have pbc:wc.cell? ⟨pb,1,none⟩=some (.int .i64 (r0.deep:Int)):=by rw[World.cell?_of_block (HF3.out.block pb HPL.out HPB.out)];exact HPC.out
     have hqz:(q:Int)<(n2:Int):=by omega
     rw[hn3] at hn2
     have HFW3:=hid (HF2.out.step HF3.out fun i _ e=> .inl e)
     have HN4:=hid (HF3.out.box HN2.out HT.out.ng)
     have HGV:Hid (g<V.heap.size):=hid HN2.out.lt
     have HWV:Hid (w.heap.size≤V.heap.size):=hid HF2.out.size
     clear p0 p1 hi0 hz0 hz1 hz2 h1 hBz2 hdB hlB hll hgl HOWN HL2 HN2 HF2 HPB HPC HPL hn3 ho hset
     go_upto_region 6 with fail
     go_quiet (fail)
     have hfv:Fr wc (wc.drewN nq) (fun _=>False):=Fr.drewN wc nq _
     obtain⟨V2,hV2⟩:∃V,wc.drewN nq=V:=⟨_,rfl⟩
     rw[hV2] at hfv ⊢
     have HL5:=hid (HL3.out.fr hfv (fun g _ h=>h))
     have HF5:=hid (HFW3.out.step hfv fun i _ e=>e.elim)
     have HN5:=hid (hfv.box HN4.out (fun h=>h))
     have HZ5:Hid (V.heap.size≤V2.heap.size):=hid (Nat.le_trans HF3.out.size hfv.size)
     have HS5:Hid (V2.ownsRow B 36 4 (.slice (some ⟨g0,0,none⟩) n2 cap2) n2 (flat dc s.decls)):=by
      have:=HL5.out.decls
      have e:({s with uses:=s.uses++[(t,(q:Int))]}:Scopy.St).decls.length=n2:=HN3.out
      rw[e] at this
      exact this
     have HLg:Hid (Grow LS V wc g0):=hid (HL3.out.dS g0 rfl)
     clear hV2 hfv HL3 HF3 HFW3 HN4 HSET l1c pbc d2 d3 d3f
     obtain⟨g1,hg1,_,hgl1,_,_,e2,e3,e3f,hset⟩:=decl_cells HS5.out HN3.out HD.out
     have hg1:g1=g0:=by injection hg1 with h;injection h with h _ _;exact h.symm
     subst hg1
     have HSET:=hid hset
     have l1c:=HL5.out.box.cell 1
     simp[lkc] at l1c
     clear hset
     go_upto_if 56 with fail
     go_cut [] from 56 to 64 (fun wx=>Hid (Lk wx l B kv dk nm (Grow LS V wx) {s with uses:=s.uses++[(t,(q:Int))],decls:=Scopy.mark s.decls q r0.deep} (.slice (some ⟨g1,0,none⟩) n2 cap2) uv')∧Hid (Fr w wx (fun i=>LS i∨i=g))∧Hid (Box wx g 24 C)∧Hid (V.heap.size≤wx.heap.size))
     case first=>
      by_cases hdp:d.deep<r0.deep
      ·have hdz:(d.deep:Int)<(r0.deep:Int):=by omega
       have hdd:decide ((d.deep:Int)<(r0.deep:Int))=true:=decide_eq_true hdz
       have HM2:=hid (mark_yes HD.out hdp)
       clear hdp
       go_wp2_with fail
       go_meet
       have hL6:=HL5.out.caught rfl HN3.out (by rw[List.length_set];exact HN3.out) hg0 HSET.out
       have fs:=Fr.set V2 ⟨g1,q * 4+3,none⟩ (.bool true)
       have hng:g1≠g:=by
        rintro rfl
        rcases HLg.out.2 with e | e
        ·exact HT.out.ng e
        ·have:=HGV.out;omega
       rw[HM2.out]
       refine⟨hL6.sets (fun i hi=>⟨by have:=HL5.out.lt i hi;have:=fs.size;omega,hi.2⟩) (fun i hi=>hi.1),hid (HF5.out.step fs fun i hi e=> ?_),fs.box HN5.out (fun e=>hng e.symm),Nat.le_trans HZ5.out fs.size⟩
       have e:i=g1:=e
       subst e
       rcases HLg.out.2 with e | e
       ·exact .inl e
       ·have:=HWV.out;omega
      ·have hdz:¬(d.deep:Int)<(r0.deep:Int):=by omega
       have hdd:decide ((d.deep:Int)<(r0.deep:Int))=false:=decide_eq_false hdz
       have HM2:=hid (mark_no HD.out hdp)
       clear hdp
       go_wp2_with fail
       go_meet
       rw[HM2.out]
       exact⟨HL5.out.sets (fun i hi=>⟨HL5.out.lt i hi,hi.2⟩) (fun i hi=>hi.1),HF5,HN5,HZ5⟩
     case rest=>
      obtain⟨HL7,HF7,HN7,HZ7⟩:=hcut
      clear HSET HLg HS5 HZ5 HN5 HF5 HL5 l1c e2 e3 e3f hqz
      have HG7:Hid (∀(W:World),wc.heap.size≤W.heap.size→∀i,Grow LS V wc i→Grow LS w W i):=hid fun W hW i hi=>by
       have h2:=HWV.out
       obtain⟨h3,h4⟩:=hi
       refine⟨by omega,?_⟩
       rcases h4 with h4 | h4
       ·exact .inl h4
       ·right;omega
      have l4c:=HL7.out.box.cell 4
      have l5c:=HL7.out.box.cell 5
      simp[lkc] at l4c l5c
      have ngf:=HN7.out.frozen (o+2)
      have ngc:wc.cell? ⟨g,o+2,none⟩=some (.string (byt t)):=by rw[HN7.out.cell];exact HT.out.cells 2 (by omega)
      by_cases hk:(q:Int)=dk
      ·have q1:((q:Int)==dk)=true:=by simp[hk]
       have q2:decide ((q:Int)=dk)=true:=by simp[hk]
       clear hk
       go_wp2_with fail
       refine bodyPost_ret (results_none rfl _ _ _) rfl ?_
       unfold UseOut
       rw[HE.out]
       have fs:=Fr.set wc ⟨g,o+2,none⟩ (.string (byt nm))
       have hif:(if (q:Int)=dk then nm else t)=nm:=if_pos (by simpa using q2)
       have hng:¬Grow LS V wc g:=fun h=>by
        rcases h.2 with e | e
        ·exact HT.out.ng e
        ·have:=HGV.out;omega
       refine⟨rfl,_,uv',C.setIfInBounds (o+2) (.string (byt nm)),(HL7.out.fr fs fun i hi e=>hng ((show i=g from e) ▸ hi)).sets (fun i hi=>HG7.out _ fs.size i hi) (fun i hi=>hi.1),HN7.out.set (o+2) _,Same4.text C o _,by simp only[hif];exact HT.out.cells.text,HF7.out.step fs fun i _ e=> .inr e⟩
      ·have q1:((q:Int)==dk)=false:=by simp[hk]
       have q2:decide ((q:Int)=dk)=false:=by simp[hk]
       clear hk
       go_wp2_with fail
       refine bodyPost_ret (results_none rfl _ _ _) rfl ?_
       unfold UseOut
       rw[HE.out]
       have hif:(if (q:Int)=dk then nm else t)=t:=if_neg (by simpa using q2)
       exact⟨rfl,_,uv',C,HL7.out.sets (fun i hi=>HG7.out _ (Nat.le_refl _) i hi) (fun i hi=>hi.1),HN7.out,Same4.refl C o,by simp only[hif];exact HT.out.cells,HF7.out⟩
end Go.Proofs.YtflmjbmdmoifhaaGreatDoor
namespace Scopy
open Pars (Node Bs)
def Few (s:St):Prop:=s.decls.length≤4000000∧s.uses.length≤4000000
theorem few_back (known:List Bs) (dk:Int) (nm:Bs):Backs (hs known dk nm) Few where
 push _ _ h:=h
 pop _ h:=h
 decl k t s h:=by
  rcases decl_cases (known:=known) (dk:=dk) (nm:=nm) k t s with⟨e0,e⟩ | ⟨e0,_,e⟩ | ⟨e0,_,e⟩<;>rw[e] at h
  ·exact h
  ·exact h
  ·have:=h.1
   simp only[List.length_append] at this
   exact⟨by omega,h.2⟩
 use t s h:=by
  rcases use_cases (known:=known) (dk:=dk) (nm:=nm) t s with⟨_,e⟩ | ⟨e0,k,_,e⟩ | ⟨e0,_,_,e⟩ | ⟨e0,_,_,e⟩<;>rw[e] at h
  ·exact h
  ·have h1:=h.1
   have h2:=h.2
   simp only[mark_len] at h1
   simp only[List.length_append] at h2
   exact⟨h1,by omega⟩
  ·have h2:=h.2
   simp only[List.length_append] at h2
   exact⟨h.1,by omega⟩
  ·exact h
section
variable {σ : Type}
def done (f:Node→σ→σ×Node) (l:List Node) (s:σ) (j:Nat):σ×List Node:=((mapA f (l.take j) s).1,(mapA f (l.take j) s).2++l.drop j)
theorem done_zero (f:Node→σ→σ×Node) (l:List Node) (s:σ):done f l s 0=(s,l):=by simp[done,mapA]
theorem done_all (f:Node→σ→σ×Node) (l:List Node) (s:σ):done f l s l.length=mapA f l s:=by simp[done]
theorem done_len (f:Node→σ→σ×Node) (l:List Node) (s:σ) (j:Nat):(done f l s j).2.length=l.length:=by
 simp only[done,List.length_append,mapA_len,List.length_take,List.length_drop]
 omega
theorem done_at (f:Node→σ→σ×Node) {l:List Node} (s:σ) {j:Nat} {x:Node} (h:l[j]? =some x):(done f l s j).2[j]? =some x:=by
 have hj:=(List.getElem?_eq_some_iff.1 h).1
 simp only[done]
 rw[List.getElem?_append_right (by rw[mapA_len];simp;omega),mapA_len,List.length_take,List.getElem?_drop]
 rw[show min j l.length=j by omega]
 simpa using h
theorem done_succ (f:Node→σ→σ×Node) {l:List Node} (s:σ) {j:Nat} {x:Node} (h:l[j]? =some x):done f l s (j+1)=((f x (done f l s j).1).1,(done f l s j).2.set j (f x (done f l s j).1).2):=by
 have hj:=(List.getElem?_eq_some_iff.1 h).1
 have e1:l.take (j+1)=l.take j++[x]:=by rw[List.take_add_one,h];rfl
 have e2:l.drop j=x :: l.drop (j+1):=by rw[List.drop_eq_getElem_cons hj,(List.getElem?_eq_some_iff.1 h).2]
 simp only[done]
 rw[e1,mapA_app]
 simp only[mapA]
 rw[e2,List.set_append_right _ _ (by rw[mapA_len];simp;omega),mapA_len,List.length_take,show j - min j l.length=0 by omega]
 simp
theorem done_back {f:Node→σ→σ×Node} {J:σ→Prop} (hf:∀a s,J (f a s).1→J s) {l:List Node} {s:σ} (j:Nat) (h:J (mapA f l s).1):J (done f l s j).1:=by
 have e:mapA f l s=mapA f (l.take j++l.drop j) s:=by rw[List.take_append_drop]
 rw[e,mapA_app] at h
 exact mapA_back hf _ _ h
end
section
variable {known : List Bs} {dk : Int} {nm : Bs}
theorem done_rooms (N:Nat) (l:List Node) (s:St) (j:Nat):(done (tr (hs known dk nm) N) l s j).1.rooms=s.rooms:=mapA_v (v:=St.rooms) (rooms_same known dk nm N) _ s
theorem tr_tells (N:Nat) (n:Node) (s:St) (h:Tells known s):Tells known (tr (hs known dk nm) N n s).1:=tr_inv (tells known dk nm) N n s trivial h
theorem decl_deep (k:Int) (t:Bs) (s:St):((hs known dk nm).decl k t s).1.top.deep=s.top.deep:=by
 rcases decl_cases (known:=known) (dk:=dk) (nm:=nm) k t s with⟨_,e⟩ | ⟨_,_,e⟩ | ⟨_,_,e⟩<;>rw[e]<;>rfl
theorem decl_ne (k:Int) (t:Bs) (s:St) (h:s.rooms≠[]):((hs known dk nm).decl k t s).1.rooms=((hs known dk nm).decl k t s).1.top :: s.rooms.tail:=by
 cases hr:s.rooms with
 | nil=>exact absurd hr h
 | cons r l=>
  rcases decl_cases (known:=known) (dk:=dk) (nm:=nm) k t s with⟨_,e⟩ | ⟨_,_,e⟩ | ⟨_,_,e⟩<;>rw[e]<;>simp[St.top,hr]
theorem name_len {t:Bs} (h:Wri.name t=true):t.length≤2000:=by
 unfold Wri.name Lexy.toks at h
 by_cases hl:2000<t.length
 ·rw[if_pos hl] at h;cases h
 ·omega
theorem told_deep_ (a:Node) (s:St):(told (hs known dk nm) a s).1.top.deep=s.top.deep:=by
 unfold told
 split
 ·exact decl_deep _ _ _
 ·rfl
theorem done_told_deep (l:List Node) (s:St) (j:Nat):(done (told (hs known dk nm)) l s j).1.top.deep=s.top.deep:=mapA_v (v:=fun s=>s.top.deep) (fun a s=>told_deep_ a s) _ s
theorem par_deep_:∀(a:Node) (s:St),(par (hs known dk nm) a s).1.top.deep=s.top.deep
 | .mk k nu t l,s=>decl_deep _ _ _
theorem done_par_deep (l:List Node) (s:St) (j:Nat):(done (par (hs known dk nm)) l s j).1.top.deep=s.top.deep:=mapA_v (v:=fun s=>s.top.deep) (fun a s=>par_deep_ a s) _ s
theorem done_top (N:Nat) (l:List Node) (s:St) (j:Nat):(done (tr (hs known dk nm) N) l s j).1.top=s.top:=by
 unfold St.top
 rw[done_rooms]
theorem set_self {l:List Node} {j:Nat} {x:Node} (h:l[j]? =some x):l.set j x=l:=by
 apply List.ext_getElem?
 intro i
 rw[List.getElem?_set]
 split
 ·rename_i e;subst e
  rw[if_pos (List.getElem?_eq_some_iff.1 h).1,h]
 ·rfl
theorem decl_more (k:Int) (t:Bs) (s:St):s.decls.length≤((hs known dk nm).decl k t s).1.decls.length:=by
 rcases decl_cases (known:=known) (dk:=dk) (nm:=nm) k t s with⟨_,e⟩ | ⟨_,_,e⟩ | ⟨_,_,e⟩<;>rw[e]<;>simp
theorem use_more (t:Bs) (s:St):s.decls.length≤((hs known dk nm).use t s).1.decls.length:=by
 rcases use_cases (known:=known) (dk:=dk) (nm:=nm) t s with⟨_,e⟩ | ⟨_,k,_,e⟩ | ⟨_,_,_,e⟩ | ⟨_,_,_,e⟩<;>rw[e]<;>simp[mark_len]
theorem more_keeps (m:Nat):Keeps (hs known dk nm) (fun _=>True) (fun s=>m≤s.decls.length) (fun _=>True) where
 push _ _ _:=trivial
 pop _ _:=trivial
 decl _ _ _ _:=trivial
 use _ _ _:=trivial
 pushI _ _ _ i:=i
 pushP _:=trivial
 popI _ _ i:=i
 declI k t s _ i _:=Nat.le_trans i (decl_more k t s)
 declP _ _ _ _:=trivial
 useI t s _ i:=Nat.le_trans i (use_more t s)
theorem tr_more (N:Nat) (n:Node) (s:St):s.decls.length≤(tr (hs known dk nm) N n s).1.decls.length:=tr_inv (more_keeps s.decls.length) N n s trivial (Nat.le_refl _)
end
end Scopy
namespace Go.Proofs.YtflmjbmdmoifhaaGreatDoor
open Go.Lib (hid)
open Go.RowKit
structure StPre (w:World) (l B kb:Nat) (kv:Value) (known:List (List UInt8)) (dk:Int) (nm:List UInt8) (LS RS:Nat→Prop) (s:Scopy.St) (tb tm:Nat) (out dv uv:Value):Prop where
 lk:Lk w l B kv dk nm LS s dv uv
 top:Box w tb 72 (rmc tm s.top.deep out)
 map:∃c,c≤s.decls.length∧MapF natRdr w tm c s.top.f
 rest:RoomsAt w 4000000 (fun i=>RS i∧i≠tb∧i≠tm) s.rooms.tail out
 rt:RS tb∧RS tm∧tb≠tm
 nR:∀i,RS i→¬LS i∧i<w.heap.size
 kn:KnAt w kb known kv
 kL:∀i,LS i→kb≤i
 kR:∀i,RS i→kb≤i
 tells:Scopy.Tells known s
 big:B≤w.heap.size
 kw:kb≤w.heap.size
 ne:s.rooms≠[]
structure NdPre (w:World) (kb:Nat) (LS RS:Nat→Prop) (g o lo hi:Nat) (C:Array Value) (n:Pars.Node) (v:Value):Prop where
 node:Box w g 24 C
 cells:Cells4 C o (nc n.kind n.num n.text v)
 kids:KidsIn w lo hi n.kids v
 ng:¬LS g
 gR:¬RS g
 gi:g<lo∨hi≤g
 ni:∀i,lo≤i→i<hi→¬LS i∧¬RS i
 hh:hi≤w.heap.size
 kg:kb≤g
 kl:kb≤lo
def Touch (LS:Nat→Prop) (g lo hi:Nat):Nat→Prop:=fun i=>LS i∨i=g∨(lo≤i∧i<hi)
def LookOut (w:World) (l B:Nat) (kv:Value) (dk:Int) (nm:List UInt8) (LS:Nat→Prop) (g o lo hi:Nat) (C:Array Value) (v:Value) (n:Pars.Node) (r:Scopy.St×Pars.Node) (e:Ending) (w':World):Prop:=
 e= .returned (.tuple #[])∧∃dv' uv' C',Lk w' l B kv dk nm (Grow LS w w') r.1 dv' uv'∧Box w' g 24 C'∧Same4 C C' o∧Cells4 C' o (nc n.kind n.num r.2.text v)∧KidsIn w' lo hi r.2.kids v∧Fr w w' (Touch LS g lo hi)
theorem Grow.sub {LS:Nat→Prop} {w w1 w2:World} (h1:w.heap.size≤w1.heap.size) {i:Nat} (h:Grow (Grow LS w w1) w1 w2 i):Grow LS w w2 i:=by
 obtain⟨h2,h3⟩:=h
 refine⟨h2,?_⟩
 rcases h3 with⟨h4,h5⟩ | h5
 ·exact h5
 ·right;omega
theorem Grow.not {LS:Nat→Prop} {w w1:World} {i:Nat} (h:¬LS i) (hi:i<w.heap.size):¬Grow LS w w1 i:=by
 rintro⟨_,h2 | h2⟩
 ·exact h h2
 ·omega
section
variable {w w1 : World} {l B kb tb tm : Nat} {kv : Value} {known : List (List UInt8)} {dk : Int} {nm : List UInt8} {LS RS F : Nat → Prop} {s s' : Scopy.St} {out dv uv dv' uv' : Value}
theorem top_cons {s:Scopy.St} (h:s.rooms≠[]):s.rooms=s.top :: s.rooms.tail:=by
 unfold Scopy.St.top
 cases hr:s.rooms with
 | nil=>exact absurd hr h
 | cons r l=>rfl
theorem StPre.next (h:StPre w l B kb kv known dk nm LS RS s tb tm out dv uv) (hf:Fr w w1 F) (hk:Lk w1 l B kv dk nm (Grow LS w w1) s' dv' uv') (hr:∀i,RS i→¬F i) (hb:∀i,i<kb→¬F i) (h1:s'.rooms=s.rooms) (h2:Scopy.Tells known s') (h3:s.decls.length≤s'.decls.length):StPre w1 l B kb kv known dk nm (Grow LS w w1) RS s' tb tm out dv' uv':=by
 have e:s'.top=s.top:=by unfold Scopy.St.top;rw[h1]
 obtain⟨c,hc,hm⟩:=h.map
 refine⟨hk,by rw[e];exact hf.box h.top (hr _ h.rt.1),⟨c,by omega,by rw[e];exact hf.mapf hm (hr _ h.rt.2.1)⟩,by rw[h1];exact h.rest.fr hf fun i hi=>hr i hi.1,h.rt,fun i hi=>⟨Grow.not (h.nR i hi).1 (h.nR i hi).2,by have:=(h.nR i hi).2;have:=hf.size;omega⟩,h.kn.fr hf hb,fun i hi=> ?_,h.kR,h2,by have:=h.big;have:=hf.size;omega,by have:=h.kw;have:=hf.size;omega,by rw[h1];exact h.ne⟩
 rcases hi.2 with e | e
 ·exact h.kL i e
 ·have:=h.kw;omega
theorem StPre.rooms (h:StPre w l B kb kv known dk nm LS RS s tb tm out dv uv) (hf:Scopy.Few s):RoomsAt w 4000000 RS s.rooms (at_ tb 0):=by
 obtain⟨c,hc,hm⟩:=h.map
 rw[top_cons h.ne]
 exact⟨tb,tm,c,out,rfl,h.top,hm,by have:=hf.1;omega,h.rt.1,h.rt.2.1,h.rest⟩
theorem StPre.regrow {LS0:Nat→Prop} {w0 wr:World} (h:StPre w l B kb kv known dk nm (Grow (Grow LS0 w0 wr) wr w) RS s tb tm out dv uv) (hz:w0.heap.size≤wr.heap.size) (hR:∀i,RS i→¬LS0 i∧i<w0.heap.size) (hL:∀i,LS0 i→kb≤i) (hkw:kb≤w0.heap.size):StPre w l B kb kv known dk nm (Grow LS0 w0 w) RS s tb tm out dv uv:=
 ⟨h.lk.sets (fun i hi=>hi.sub hz) (fun i hi=>hi.1),h.top,h.map,h.rest,h.rt,fun i hi=>⟨Grow.not (hR i hi).1 (hR i hi).2,(h.nR i hi).2⟩,h.kn,fun i hi=>by
  rcases hi.2 with e | e
  ·exact hL i e
  ·omega,h.kR,h.tells,h.big,h.kw,h.ne⟩
theorem StPre.grow0 (h:StPre w l B kb kv known dk nm LS RS s tb tm out dv uv):StPre w l B kb kv known dk nm (Grow LS w w) RS s tb tm out dv uv:=
 ⟨h.lk.sets (fun i hi=>⟨h.lk.lt i hi,.inl hi⟩) (fun i hi=>hi.1),h.top,h.map,h.rest,h.rt,fun i hi=>⟨Grow.not (h.nR i hi).1 (h.nR i hi).2,(h.nR i hi).2⟩,h.kn,fun i hi=>by
  rcases hi.2 with e | e
  ·exact h.kL i e
  ·have:=h.kw;omega,h.kR,h.tells,h.big,h.kw,h.ne⟩
theorem StPre.enter (h:StPre w l B kb kv known dk nm LS RS s tb tm out dv uv) (hf:Scopy.Few s) (d:Nat) {w1:World} (h1:Box w1 (w.heap.size+1) 72 (rmc w.heap.size (s.top.deep+d) (at_ tb 0))) (h2:MapF natRdr w1 w.heap.size 0 Scopy.empty) (hb:Below w.heap.size w w1) (hz:w1.heap.size=w.heap.size+2):
  StPre w1 l B kb kv known dk nm LS (fun i=>RS i∨i=w.heap.size∨i=w.heap.size+1) ((Scopy.hs known dk nm).push d s) (w.heap.size+1) w.heap.size (at_ tb 0) dv uv:=by
 have fr:=Fr.below hb (fun _=>False)
 refine⟨(h.lk.fr fr fun g _ h=>h).state rfl rfl rfl,h1,⟨0,Nat.zero_le _,h2⟩,?_,⟨.inr (.inr rfl),.inr (.inl rfl),by omega⟩,fun i hi=> ?_,h.kn.fr fr fun i _ h=>h,h.kL,fun i hi=> ?_,Scopy.tells_push d s h.tells,by have:=h.big;omega,by have:=h.kw;omega,by show _ :: _≠[];simp⟩
 ·show RoomsAt w1 4000000 _ s.rooms (at_ tb 0)
  exact ((h.rooms hf).fr fr fun _ _ h=>h).sets (Nat.le_refl _) fun i hi=>⟨.inl hi,by have:=(h.nR i hi).2;omega,by have:=(h.nR i hi).2;omega⟩
 ·rcases hi with hi | rfl | rfl
  ·exact⟨(h.nR i hi).1,by have:=(h.nR i hi).2;omega⟩
  ·exact⟨fun hl=>by have:=h.lk.lt _ hl;omega,by omega⟩
  ·exact⟨fun hl=>by have:=h.lk.lt _ hl;omega,by omega⟩
 ·have:=h.kw
  rcases hi with hi | rfl | rfl
  ·exact h.kR i hi
  ·omega
  ·omega
theorem tell_st (h:StPre w l B kb kv known dk nm LS RS s tb tm out dv uv) {g o:Nat} {C:Array Value} {k nu:Int} {t:List UInt8} {v:Value} (kd:Int) (hn:Box w g 24 C) (hc:Cells4 C o (nc k nu t v)) (ng:¬LS g) (gR:¬RS g) (tl:t.length≤4000000) (kg:kb≤g) (hf:Scopy.Few ((Scopy.hs known dk nm).decl kd t s).1):
  Calls Tryz.prog 42 #[at_ l 0,at_ tb 0,.int .i64 kd,at_ g o] w fun e w'=>e= .returned (.tuple #[])∧∃dv' C',StPre w' l B kb kv known dk nm (Grow LS w w') RS ((Scopy.hs known dk nm).decl kd t s).1 tb tm out dv' uv∧Box w' g 24 C'∧Same4 C C' o∧Cells4 C' o (nc k nu ((Scopy.hs known dk nm).decl kd t s).2 v)∧Fr w w' (fun i=>LS i∨i=g∨i=tm):=by
 obtain⟨c,hcd,hm⟩:=h.map
 have hf0:=(Scopy.few_back known dk nm).decl kd t s hf
 refine (tell_any known kd h.lk ⟨hn,hc,h.top,hm,ng,(h.nR _ h.rt.1).1,(h.nR _ h.rt.2.1).1,fun e=>gR (e ▸ h.rt.1),fun e=>gR (e ▸ h.rt.2.1),h.rt.2.2,tl⟩ (top_cons h.ne) h.big hf0.1 hcd).mono ?_
 rintro e w' ⟨rfl,dv',C',hl,h1,h2,h3,⟨c',h4,h5⟩,h6⟩
 refine⟨rfl,dv',C',⟨hl,?_,⟨c',h4,h5⟩,?_,h.rt,fun i hi=>⟨Grow.not (h.nR i hi).1 (h.nR i hi).2,by have:=(h.nR i hi).2;have:=h6.size;omega⟩,h.kn.fr h6 ?_,fun i hi=> ?_,h.kR,Scopy.tells_decl kd t s h.tells,by have:=h.big;have:=h6.size;omega,by have:=h.kw;have:=h6.size;omega,?_⟩,h1,h2,h3,h6⟩
 ·rw[Scopy.decl_deep]
  refine h6.box h.top ?_
  rintro (e | e | e)
  ·exact (h.nR _ h.rt.1).1 e
  ·exact gR (e ▸ h.rt.1)
  ·exact h.rt.2.2 e
 ·rw[Scopy.decl_ne kd t s h.ne,List.tail_cons]
  refine h.rest.fr h6 ?_
  rintro i ⟨hi,h7,h8⟩ (e | e | e)
  ·exact (h.nR _ hi).1 e
  ·exact gR (e ▸ hi)
  ·exact h8 e
 ·rintro i hi (e | e | e)
  ·have:=h.kL i e;omega
  ·omega
  ·have:=h.kR _ h.rt.2.1;omega
 ·rcases hi.2 with e | e
  ·exact h.kL i e
  ·have:=h.kw;omega
 ·rw[Scopy.decl_ne kd t s h.ne];simp
end
structure RowAt (w:World) (b lo hi:Nat) (C:Array Value) (ks:List Pars.Node) (css:List (Array Value)):Prop where
 box:Box w b 24 C
 has:RowHas C css
 subs:SubsIn w lo hi ks css
 bl:b<lo
 lh:lo≤hi
theorem KidsIn.row {w:World} {lo hi:Nat} {ks:List Pars.Node} {v:Value} (h:KidsIn w lo hi ks v) (hp:0<ks.length):∃b cap C css,v= .slice (some ⟨b,0,none⟩) ks.length cap∧ks.length≤cap∧cap≤9223372036854775807∧lo≤b∧b<hi∧RowAt w b (b+1) hi C ks css:=by
 cases ks with
 | nil=>simp at hp
 | cons n l=>
  unfold KidsIn at h
  obtain⟨b,cap,C,css,h1,h2,h3,h4,h5,h6,h7,h8⟩:=h
  exact⟨b,cap,C,css,h1,h2,h3,h4,h5,h6,h7,h8,by omega,by omega⟩
theorem RowAt.kids {w:World} {lo hi b cap:Nat} {C:Array Value} {ks:List Pars.Node} {css:List (Array Value)} (h:RowAt w b (b+1) hi C ks css) (h1:lo≤b) (h2:b<hi) (h3:ks.length≤cap) (h4:cap≤9223372036854775807) {m:Nat} (hm:ks.length=m):KidsIn w lo hi ks (.slice (some ⟨b,0,none⟩) m cap):=by
 subst hm
 cases ks with
 | nil=>
  unfold KidsIn
  exact⟨_,cap,rfl,h4⟩
 | cons n l=>
  unfold KidsIn
  exact⟨b,cap,C,css,rfl,h3,h4,h1,h2,h.box,h.has,h.subs⟩
theorem KidsIn.slice {w:World} {lo hi:Nat} {ks:List Pars.Node} {v:Value} (h:KidsIn w lo hi ks v):∃A cap,v= .slice A ks.length cap:=by
 cases ks with
 | nil=>unfold KidsIn at h;obtain⟨A,c,rfl,_⟩:=h;exact⟨A,c,rfl⟩
 | cons n l=>unfold KidsIn at h;obtain⟨b,cap,C,css,rfl,_⟩:=h;exact⟨_,cap,rfl⟩
theorem RowAt.kid {w:World} {b lo hi:Nat} {C:Array Value} {ks:List Pars.Node} {css:List (Array Value)} (h:RowAt w b lo hi C ks css) {i:Nat} {x:Pars.Node} (hx:ks[i]? =some x):
  ∃a c vx,lo≤a∧a≤c∧c≤hi∧Cells4 C (i * 4) (nc x.kind x.num x.text vx)∧KidsIn w a c x.kids vx∧
   ∀(w1:World) (F:Nat→Prop) (C':Array Value) (x':Pars.Node),Fr w w1 F→(∀g,lo≤g→g<hi→(g<a∨c≤g)→¬F g)→Box w1 b 24 C'→Same4 C C' (i * 4)→Cells4 C' (i * 4) (nc x'.kind x'.num x'.text vx)→KidsIn w1 a c x'.kids vx→
    ∃css',RowAt w1 b lo hi C' (ks.set i x') css':=by
 obtain⟨a,c,cx,h1,h2,h3,h4,h5,h6⟩:=h.subs.at h.lh hx
 obtain⟨k,nu,t,l⟩:=x
 unfold NodeIn at h5
 obtain⟨vx,rfl,h7⟩:=h5
 refine⟨a,c,vx,h1,h2,h3,h.has.cells h4,h7,fun w1 F C' x' hf hn hb hs hc hk=> ?_⟩
 obtain⟨k',nu',t',l'⟩:=x'
 exact⟨css.set i (nc k' nu' t' vx),hb,h.has.set hs hc rfl,h6 hf hn (by unfold NodeIn;exact⟨vx,rfl,hk⟩),h.bl,h.lh⟩
theorem RowAt.fr {w w1:World} {b lo hi:Nat} {C:Array Value} {ks:List Pars.Node} {css:List (Array Value)} {F:Nat→Prop} (h:RowAt w b lo hi C ks css) (hf:Fr w w1 F) (hb:¬F b) (hn:∀i,lo≤i→i<hi→¬F i):RowAt w1 b lo hi C ks css:=
 ⟨hf.box h.box hb,h.has,h.subs.fr hf hn,h.bl,h.lh⟩
end Go.Proofs.YtflmjbmdmoifhaaGreatDoor
namespace Go.Proofs.YtflmjbmdmoifhaaGreatDoor
open Go.Lib (hid)
open Go.RowKit
def LookLe (N:Nat) (l B kb:Nat) (kv:Value) (known:List (List UInt8)) (dk:Int) (nm:List UInt8):Prop:=
 ∀(w:World) (LS RS:Nat→Prop) (s:Scopy.St) (tb tm:Nat) (out dv uv:Value) (g o lo hi:Nat) (C:Array Value) (n:Pars.Node) (v:Value) (fn lp:Bool),
  StPre w l B kb kv known dk nm LS RS s tb tm out dv uv→NdPre w kb LS RS g o lo hi C n v→Wri.right n fn lp=true→Pars.deep n≤N→s.top.deep+Pars.deep n≤1000→Scopy.Few (Scopy.tr (Scopy.hs known dk nm) N n s).1→
  Calls Tryz.prog 27 #[at_ l 0,at_ tb 0,at_ g o] w (LookOut w l B kv dk nm LS g o lo hi C v n (Scopy.tr (Scopy.hs known dk nm) N n s))
def inRoom (known:List (List UInt8)) (dk:Int) (nm:List UInt8) (N:Nat) (k:Int) (t:List UInt8) (b:Pars.Node) (s:Scopy.St):Scopy.St×Pars.Node:=Scopy.tr (Scopy.hs known dk nm) N b ((Scopy.hs known dk nm).decl k t ((Scopy.hs known dk nm).push 0 s)).1
def NamedOut (w:World) (l B:Nat) (kv:Value) (known:List (List UInt8)) (dk:Int) (nm:List UInt8) (LS:Nat→Prop) (s:Scopy.St) (N:Nat) (g o:Nat) (C:Array Value) (k nu:Int) (t:List UInt8) (v:Value) (g2 o2 lo hi:Nat) (C2:Array Value) (b:Pars.Node) (v2:Value) (e:Ending) (w':World):Prop:=
 e= .returned (.tuple #[])∧∃dv' uv' C' C2',Lk w' l B kv dk nm (Grow LS w w') ((Scopy.hs known dk nm).pop (inRoom known dk nm N k t b s).1) dv' uv'∧Box w' g 24 C'∧Same4 C C' o∧Cells4 C' o (nc k nu ((Scopy.hs known dk nm).decl k t ((Scopy.hs known dk nm).push 0 s)).2 v)∧
  Box w' g2 24 C2'∧Same4 C2 C2' o2∧Cells4 C2' o2 (nc b.kind b.num (inRoom known dk nm N k t b s).2.text v2)∧KidsIn w' lo hi (inRoom known dk nm N k t b s).2.kids v2∧Fr w w' (fun i=>LS i∨i=g∨i=g2∨(lo≤i∧i<hi))
set_option maxRecDepth 100000 in
set_option maxHeartbeats 8000000 in
theorem named_any {N l B kb:Nat} {kv:Value} {known:List (List UInt8)} {dk:Int} {nm:List UInt8} (ih:LookLe N l B kb kv known dk nm) {w:World} {LS RS:Nat→Prop} {s:Scopy.St} {tb tm:Nat} {out dv uv:Value} {g o:Nat} {C:Array Value} {k nu:Int} {t:List UInt8} {v:Value} {g2 o2 lo hi:Nat} {C2:Array Value} {b:Pars.Node} {v2:Value} {fn lp:Bool}
  (hst:StPre w l B kb kv known dk nm LS RS s tb tm out dv uv) (hg:Box w g 24 C) (hc:Cells4 C o (nc k nu t v)) (ng:¬LS g) (gR:¬RS g) (kg:kb≤g) (tl:t.length≤4000000) (hnd:NdPre w kb LS RS g2 o2 lo hi C2 b v2) (hgg:g≠g2) (gi:g<lo∨hi≤g) (hr:Wri.right b fn lp=true) (hd:Pars.deep b≤N) (hdd:s.top.deep+Pars.deep b≤1000) (hf:Scopy.Few (inRoom known dk nm N k t b s).1):
  Calls Tryz.prog 43 #[at_ l 0,at_ tb 0,at_ g o,at_ g2 o2] w (NamedOut w l B kv known dk nm LS s N g o C k nu t v g2 o2 lo hi C2 b v2):=by
 have hf1:Scopy.Few ((Scopy.hs known dk nm).decl k t ((Scopy.hs known dk nm).push 0 s)).1:=Scopy.tr_back (Scopy.few_back known dk nm) N b _ hf
 have hf2:Scopy.Few s:=(Scopy.few_back known dk nm).push 0 s ((Scopy.few_back known dk nm).decl k t _ hf1)
 have r1:=hst.top.cell 1
 simp[rmc] at r1
 have HST:=hid hst
 have HG:=hid hg
 have HC:=hid hc
 have HND:=hid hnd
 have HF:=hid hf
 have HF1:=hid hf1
 have HF2:=hid hf2
 have IH:=hid ih
 have HR:=hid hr
 have HD:=hid (And.intro hd hdd)
 clear hst hg hc hnd hf hf1 hf2 ih hr hd hdd
 go_enter Tryz.func43,Tryz.ntmps43
 go_wp2_with fail
 refine (within_room (some ⟨tb,0,none⟩) s.top.deep w).mono ?_
 rintro e w1 ⟨rfl,hb1,hm1,hb,hz1⟩
 have HS1:=hid (HST.out.enter HF2.out 0 hb1 hm1 hb hz1)
 have HG1:=hid ((Fr.below hb (fun _=>False)).box HG.out (fun h=>h))
 have HB1:=hid hb
 have HZ1:=hid hz1
 have n0:w1.cell? ⟨g,o,none⟩=some (.int .i64 k):=by rw[HG1.out.cell];exact HC.out 0 (by omega)
 clear hb1 hm1 hb hz1 r1
 go_wp2_with fail
 have hgR:¬(fun i=>RS i∨i=w.heap.size∨i=w.heap.size+1) g:=by
  have:=HG.out.lt
  rintro (e | e | e)
  ·exact gR e
  ·omega
  ·omega
 refine (tell_st HS1.out k HG1.out HC.out ng hgR tl kg HF1.out).mono ?_
 rintro e w2 ⟨rfl,dv2,C',hs2,h1,h2,h3,h4⟩
 have HS2:=hid hs2
 have HG2:=hid h1
 have HM2:=hid (And.intro h2 h3)
 have HF4:=hid h4
 have HDP:Hid (((Scopy.hs known dk nm).decl k t ((Scopy.hs known dk nm).push 0 s)).1.top.deep=s.top.deep):=hid (Scopy.decl_deep k t _)
 clear hs2 h1 h2 h3 h4 n0
 have hN2:NdPre w2 kb (Grow LS w1 w2) (fun i=>RS i∨i=w.heap.size∨i=w.heap.size+1) g2 o2 lo hi C2 b v2:=by
  have hnd:=HND.out
  have f1:=(Fr.below HB1.out (fun _=>False))
  have hlt:=hnd.node.lt
  have hne:∀i,i<w.heap.size→i≠g→¬LS i→¬(fun i=>LS i∨i=g∨i=w.heap.size) i:=fun i h1 h2 h3 h=>by
   rcases h with e | e | e
   ·exact h3 e
   ·exact h2 e
   ·omega
  have hz:=HZ1.out
  refine⟨HF4.out.box (f1.box hnd.node (fun h=>h)) (hne g2 hlt (fun e=>hgg e.symm) hnd.ng),hnd.cells,(hnd.kids.fr f1 (fun _ _ _ h=>h)).fr HF4.out fun i h1 h2=>hne i (by have:=hnd.hh;omega) (by omega) (hnd.ni i h1 h2).1,Grow.not hnd.ng (by omega),?_,hnd.gi,fun i h1 h2=>⟨Grow.not (hnd.ni i h1 h2).1 (by have:=hnd.hh;omega),?_⟩,by have:=hnd.hh;have:=HF4.out.size;omega,hnd.kg,hnd.kl⟩
  ·rintro (e | e | e)
   ·exact hnd.gR e
   ·omega
   ·omega
  ·have:=hnd.hh
   rintro (e | e | e)
   ·exact (hnd.ni i h1 h2).2 e
   ·omega
   ·omega
 have HN2:=hid hN2
 clear hN2
 go_wp2_with fail
 refine (IH.out w2 (Grow LS w1 w2) _ _ _ _ _ _ _ g2 o2 lo hi C2 b v2 fn lp HS2.out HN2.out HR.out HD.out.1 (by rw[HDP.out];exact HD.out.2) HF.out).mono ?_
 rintro e w3 ⟨rfl,dv3,uv3,C3,h1,h2,h3,h4,h5,h6⟩
 go_wp2_with fail
 refine bodyPost_end (results_none rfl _ _ _) rfl ?_
 have hz:=HZ1.out
 have hs0:=HF4.out.size
 have hs3:=h6.size
 have hgl:=HG.out.lt
 have hsub:∀i,Grow (Grow LS w1 w2) w2 w3 i→Grow LS w w3 i:=fun i hq=>by
  refine⟨hq.1,?_⟩
  rcases hq.2 with e | e
  ·rcases e.2 with e | e
   ·exact .inl e
   ·right;omega
  ·right;omega
 have hbox:Box w3 g 24 C':=h6.box HG2.out (by
  rintro (e | e | e)
  ·exact Grow.not ng (by omega) e
  ·exact hgg e
  ·omega)
 refine⟨rfl,dv3,uv3,C',C3,(h1.sets hsub (fun i hq=>hq.1)).state rfl rfl rfl,hbox,HM2.out.1,HM2.out.2,h2,h3,h4,h5,?_⟩
 refine ((Fr.below HB1.out _).step HF4.out fun i hi e=> ?_).step h6 fun i hi e=> ?_
 ·rcases e with e | e | e
  ·exact .inl e
  ·exact .inr (.inl e)
  ·omega
 ·rcases e with e | e | e
  ·rcases e.2 with e | e
   ·exact .inl e
   ·omega
  ·exact .inr (.inr (.inl e))
  ·exact .inr (.inr (.inr e))
end Go.Proofs.YtflmjbmdmoifhaaGreatDoor
