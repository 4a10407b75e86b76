/-
  Texts that the law leans on: PmQ, PmR. Conditions: as each says.
-/
import Derived.Test.YtflmjbmdmoifhaaGreatDoorKAj
import Derived.Test.YtflmjbmdmoifhaaGreatDoorKAa
set_option linter.unusedSimpArgs false
set_option linter.unusedVariables false
namespace Go.Proofs.YtflmjbmdmoifhaaGreatDoor
open Go.Lib (hid)
open Go.RowKit
theorem sg_one {a b:Pars.Bs} {l r:List Lexy.Tk} {f:Pars.Bs→List Lexy.Tk→Pars.R} {g:Pars.R} (h:Pars.is a l=some r):Pars.signs [a,b] l f g=f a r:=by simp only[Pars.signs,Pars.anyOf,h]
theorem sg_two {a b:Pars.Bs} {l r:List Lexy.Tk} {f:Pars.Bs→List Lexy.Tk→Pars.R} {g:Pars.R} (h0:Pars.is a l=none) (h:Pars.is b l=some r):Pars.signs [a,b] l f g=f b r:=by simp only[Pars.signs,Pars.anyOf,h0,h]
theorem sg_no {a b:Pars.Bs} {l:List Lexy.Tk} {f:Pars.Bs→List Lexy.Tk→Pars.R} {g:Pars.R} (h0:Pars.is a l=none) (h:Pars.is b l=none):Pars.signs [a,b] l f g=g:=by simp only[Pars.signs,Pars.anyOf,h0,h]
set_option maxRecDepth 100000 in
set_option maxHeartbeats 4000000 in
theorem un_step {n:Nat} (hall:∀m,m≤n→All m):∀{w:World} {b:Nat} {ts:List KT} {A:Option Addr} {c k:Nat} {fn lp:Bool},PSt w b ts A c k fn lp→20 * (ts.length - k)+3<n+1→Calls Tryz.prog 122 #[.pointer (some ⟨b,0,none⟩)] w (Got w b ts A c k fn lp (Pars.run (n+1) .unary fn lp (left ts k))):=by
 have h:=hall n (Nat.le_refl _)
 intro w b ts A c k fn lp hP hm
 have HR:Hid (Pars.run (n+1) .unary fn lp (left ts k)=_):=hid (by rw[Pars.run])
 have hbl:=hP.box.lt
 have hle:=hP.kle
 go_enter Tryz.func122,Tryz.ntmps122
 go_upto_region 1 with fail
 refine gen_world (F:=fun W=>Box W w.heap.size 106 #[.pointer (some ⟨b,0,none⟩)]∧Box W (w.heap.size+1) 24 #[.int .i64 0,.int .i64 0,.string ⟨#[]⟩,.slice none 0 0]∧Below w.heap.size w W) ⟨(Box.new w _ _).alloc _,new2 w _ _ _,(below1 w _).alloc (by simp) _⟩ ?_
 rintro W0 ⟨p0,r0,hU⟩
 obtain⟨i0,hi0,hi1,hi2,hi3⟩:=info_parts parts_nod
 have hlen:=hP.len
 obtain⟨pb,hpbe⟩:∃q,w.heap.size=q:=⟨_,rfl⟩
 obtain⟨B,hBe⟩:∃q,W0.heap.size=q:=⟨_,rfl⟩
 have hpb:pb≠b:=by omega
 have hrb:pb+1≠b:=by omega
 have hrB:pb+1<B:=by have:=r0.lt;omega
 have hpB:pb<B:=by omega
 have hbB:b<B:=by omega
 have hwB:w.heap.size≤B:=by omega
 have hpw:w.heap.size=pb:=hpbe
 have HPB:=hid hpbe
 have HBE:=hid hBe
 rw[hpbe] at p0 r0 ⊢
 clear hpbe hpw
 have PX:=hid p0
 have RB:=hid r0
 have HP:=hid (hP.below hU)
 have HA:Hid (0<ts.length→∀g o,A=some ⟨g,o,none⟩→g<B):=hid (hBe ▸ HP.out.old)
 have HW:Hid (Upd w W0 b):=hid (Upd.below hU b)
 have HU:Hid (UpdB B W0 W0 b):=hid (UpdB.refl _ _ _)
 have hBw:B≤W0.heap.size:=Nat.le_of_eq hBe.symm
 clear p0 r0 hU hP hBe
 have i0:∀w,(Instr.index 171 (.agg #[.string ⟨#[33]⟩,.string ⟨#[45]⟩]) (.int .i64 0)).run Tryz.prog w= .ok (.string ⟨#[33]⟩) w:=fun _=>by kernel_rfl
 have i1:∀w,(Instr.index 171 (.agg #[.string ⟨#[33]⟩,.string ⟨#[45]⟩]) (.int .i64 1)).run Tryz.prog w= .ok (.string ⟨#[45]⟩) w:=fun _=>by kernel_rfl
 go_wp2
 go_loopg [7] 2 (fun gg s7 wr=>∃(j:Nat),j≤2∧2 - j≤gg∧s7= .int .i64 (j:Int)∧B≤wr.heap.size∧Hid (Box wr pb 106 #[.pointer (some ⟨b,0,none⟩)])∧Hid (Box wr (pb+1) 24 #[.int .i64 0,.int .i64 0,.string ⟨#[]⟩,.slice none 0 0])∧Hid (PSt wr b ts A c k fn lp)∧Hid (UpdB B W0 wr b)∧Hid (0<j→Pars.is [33] (left ts k)=none)∧Hid (1<j→Pars.is [45] (left ts k)=none))
 case atStart=>exact⟨0,by omega,by omega,rfl,hBw,PX,RB,HP,HU,hid (fun h=>absurd h (by omega)),hid (fun h=>absurd h (by omega))⟩
 case round=>
  clear PX RB HP HU hBw
  obtain⟨j,hj2,hg,rfl,hBw,PX,RB,HP,HU,I1,I2⟩:=hrel
  have hj3:j=0∨j=1∨j=2:=by omega
  rcases hj3 with rfl | rfl | rfl
  ·have px:=PX.out.cell 0
   simp at px
   go_wp2_with fail
   clear px
   refine (is_any [33] _ b ts A c k fn lp HP.out).mono ?_
   rintro e w1 (⟨hi,hk,rfl,hx,hu⟩ | ⟨hi,rfl,hx,hu⟩)
   ·replace HR:=hid (HR.out.trans (sg_one hi))
    have hub:=UpdB.of_upd hu hBw
    replace PX:=bg PX hu
    replace RB:=bg RB hu
    replace HP:=hid (HP.out.upd hx hu (by omega))
    replace HU:=hid (HU.out.trans hub)
    replace hBw:=Nat.le_trans hBw hu.size
    clear hub
    clear hi hx hu
    have hle1:=HP.out.kle
    have px:=PX.out.cell 0
    simp at px
    go_wp2_with fail
    clear px
    refine (h.un HP.out (by omega)).mono ?_
    rintro e w2 (⟨x1,k1,cs1,hr,hk1,hk2,rfl,hn,hx,hu⟩ | ⟨hr,rfl,hu⟩)
    rotate_left
    ·exact⟨rfl,.inr ⟨HR.out.trans (Pars.and_no hr),rfl,HW.out.updB (HU.out.trans (UpdB.of_upd hu hBw)) hwB⟩⟩
    replace HR:=hid (HR.out.trans (Pars.and_some hr))
    have HN1:Hid (NodeAt w2 (fun g=>B≤g) x1 cs1):=hid (hn.weak (fun g hg=>by omega))
    have hub:=UpdB.of_upd hu hBw
    replace PX:=bg PX hu
    replace RB:=bg RB hu
    replace HP:=hid (HP.out.upd hx hu (by omega))
    replace HU:=hid (HU.out.trans hub)
    replace hBw:=Nat.le_trans hBw hu.size
    clear hub
    clear hr hn hx hu
    obtain⟨v1,hlit,hvo⟩:=NodeAt.lit HN1.out
    rw[hlit] at HN1 ⊢
    have HVO1:=hid hvo
    clear hlit hvo
    have hleX:=HP.out.kle
    have RBB:=RB.out.alloc (.cells #[.int .i64 x1.kind,.int .i64 x1.num,.string (byt x1.text),v1] 24)
    have hne0:=Nat.ne_of_lt RB.out.lt
    go_wp2_with (refine wpList_store_box rfl 24 (.tmp 2) (.tmp 17) rfl (pb+1) #[.int .i64 14,.int .i64 0,.string ⟨#[33]⟩,.slice (some ⟨w2.heap.size,0,none⟩) 1 1] rfl rfl 24 _ RBB info_nod rfl (nz_one _ _ _ _ _ _) ?_;intro wz hxz huz hzz;have HZZ:=hid hzz;clear hzz)
    have bxB:=Box.new w2 24 #[.int .i64 x1.kind,.int .i64 x1.num,.string (byt x1.text),v1]
    have hb:Below w2.heap.size w2 (w2.alloc (.cells #[.int .i64 x1.kind,.int .i64 x1.num,.string (byt x1.text),v1] 24)):=below1 w2 _
    obtain⟨wb,hwb⟩:∃wb,(w2.alloc (.cells #[.int .i64 x1.kind,.int .i64 x1.num,.string (byt x1.text),v1] 24))=wb:=⟨_,rfl⟩
    rw[hwb] at bxB hb huz
    clear hwb RBB
    have hgB:B≤w2.heap.size:=hBw
    replace HN1:=hid (HN1.out.below hb)
    replace PX:=bl PX hb
    replace RB:=bl RB hb
    replace HP:=hid (HP.out.below hb)
    replace HU:=hid (HU.out.trans (UpdB.of_below hb hBw))
    replace hBw:=Nat.le_trans hBw hb.size
    have HNN:Hid (NodeAt wb (fun g=>B≤g) (.mk 14 0 [33] [x1]) #[.int .i64 14,.int .i64 0,.string ⟨#[33]⟩,.slice (some ⟨w2.heap.size,0,none⟩) 1 1]):=hid (NodeAt.build (css:=[#[.int .i64 x1.kind,.int .i64 x1.num,.string (byt x1.text),v1]]) 14 0 [33] bxB hgB ⟨HN1.out,trivial⟩)
    clear bxB hb
    refine bodyPost_ret (results_box rfl _ _ (pb+1) 24 _ _ rfl hxz Tryz.underlying24 rfl info_nod) rfl ?_
    exact .inl ⟨_,k1,_,HR.out,by omega,HP.out.kle,rfl,(HNN.out.upd huz (fun g hg=>by have:B≤g:=hg;omega)).weak (fun g hg=>by have:B≤g:=hg;omega),Box.grown HP.out.box huz (by intro h;injection h with h;omega),Upd.fresh (HW.out.updB HU.out hwB) huz (by have:=HPB.out;omega)⟩
   have I9:=hid hi
   have hub:=UpdB.of_upd hu hBw
   replace PX:=bg PX hu
   replace RB:=bg RB hu
   replace HP:=hid (HP.out.upd hx hu (by omega))
   replace HU:=hid (HU.out.trans hub)
   replace hBw:=Nat.le_trans hBw hu.size
   clear hub
   clear hi hx hu
   go_wp2
   go_roundg (2 - 1)
   case measure=>omega
   case rel=>exact⟨1,by omega,by omega,rfl,hBw,PX,RB,HP,HU,hid (fun _=>I9.out),hid (fun h=>absurd h (by omega))⟩
  ·have px:=PX.out.cell 0
   simp at px
   go_wp2_with fail
   clear px
   refine (is_any [45] _ b ts A c k fn lp HP.out).mono ?_
   rintro e w1 (⟨hi,hk,rfl,hx,hu⟩ | ⟨hi,rfl,hx,hu⟩)
   ·replace HR:=hid (HR.out.trans (sg_two (I1.out (by omega)) hi))
    have hub:=UpdB.of_upd hu hBw
    replace PX:=bg PX hu
    replace RB:=bg RB hu
    replace HP:=hid (HP.out.upd hx hu (by omega))
    replace HU:=hid (HU.out.trans hub)
    replace hBw:=Nat.le_trans hBw hu.size
    clear hub
    clear hi hx hu
    have hle1:=HP.out.kle
    have px:=PX.out.cell 0
    simp at px
    go_wp2_with fail
    clear px
    refine (h.un HP.out (by omega)).mono ?_
    rintro e w2 (⟨x1,k1,cs1,hr,hk1,hk2,rfl,hn,hx,hu⟩ | ⟨hr,rfl,hu⟩)
    rotate_left
    ·exact⟨rfl,.inr ⟨HR.out.trans (Pars.and_no hr),rfl,HW.out.updB (HU.out.trans (UpdB.of_upd hu hBw)) hwB⟩⟩
    replace HR:=hid (HR.out.trans (Pars.and_some hr))
    have HN1:Hid (NodeAt w2 (fun g=>B≤g) x1 cs1):=hid (hn.weak (fun g hg=>by omega))
    have hub:=UpdB.of_upd hu hBw
    replace PX:=bg PX hu
    replace RB:=bg RB hu
    replace HP:=hid (HP.out.upd hx hu (by omega))
    replace HU:=hid (HU.out.trans hub)
    replace hBw:=Nat.le_trans hBw hu.size
    clear hub
    clear hr hn hx hu
    obtain⟨v1,hlit,hvo⟩:=NodeAt.lit HN1.out
    rw[hlit] at HN1 ⊢
    have HVO1:=hid hvo
    clear hlit hvo
    have hleX:=HP.out.kle
    have RBB:=RB.out.alloc (.cells #[.int .i64 x1.kind,.int .i64 x1.num,.string (byt x1.text),v1] 24)
    have hne0:=Nat.ne_of_lt RB.out.lt
    go_wp2_with (refine wpList_store_box rfl 24 (.tmp 2) (.tmp 17) rfl (pb+1) #[.int .i64 14,.int .i64 0,.string ⟨#[45]⟩,.slice (some ⟨w2.heap.size,0,none⟩) 1 1] rfl rfl 24 _ RBB info_nod rfl (nz_one _ _ _ _ _ _) ?_;intro wz hxz huz hzz;have HZZ:=hid hzz;clear hzz)
    have bxB:=Box.new w2 24 #[.int .i64 x1.kind,.int .i64 x1.num,.string (byt x1.text),v1]
    have hb:Below w2.heap.size w2 (w2.alloc (.cells #[.int .i64 x1.kind,.int .i64 x1.num,.string (byt x1.text),v1] 24)):=below1 w2 _
    obtain⟨wb,hwb⟩:∃wb,(w2.alloc (.cells #[.int .i64 x1.kind,.int .i64 x1.num,.string (byt x1.text),v1] 24))=wb:=⟨_,rfl⟩
    rw[hwb] at bxB hb huz
    clear hwb RBB
    have hgB:B≤w2.heap.size:=hBw
    replace HN1:=hid (HN1.out.below hb)
    replace PX:=bl PX hb
    replace RB:=bl RB hb
    replace HP:=hid (HP.out.below hb)
    replace HU:=hid (HU.out.trans (UpdB.of_below hb hBw))
    replace hBw:=Nat.le_trans hBw hb.size
    have HNN:Hid (NodeAt wb (fun g=>B≤g) (.mk 14 0 [45] [x1]) #[.int .i64 14,.int .i64 0,.string ⟨#[45]⟩,.slice (some ⟨w2.heap.size,0,none⟩) 1 1]):=hid (NodeAt.build (css:=[#[.int .i64 x1.kind,.int .i64 x1.num,.string (byt x1.text),v1]]) 14 0 [45] bxB hgB ⟨HN1.out,trivial⟩)
    clear bxB hb
    refine bodyPost_ret (results_box rfl _ _ (pb+1) 24 _ _ rfl hxz Tryz.underlying24 rfl info_nod) rfl ?_
    exact .inl ⟨_,k1,_,HR.out,by omega,HP.out.kle,rfl,(HNN.out.upd huz (fun g hg=>by have:B≤g:=hg;omega)).weak (fun g hg=>by have:B≤g:=hg;omega),Box.grown HP.out.box huz (by intro h;injection h with h;omega),Upd.fresh (HW.out.updB HU.out hwB) huz (by have:=HPB.out;omega)⟩
   have I9:=hid hi
   have hub:=UpdB.of_upd hu hBw
   replace PX:=bg PX hu
   replace RB:=bg RB hu
   replace HP:=hid (HP.out.upd hx hu (by omega))
   replace HU:=hid (HU.out.trans hub)
   replace hBw:=Nat.le_trans hBw hu.size
   clear hub
   clear hi hx hu
   go_wp2
   go_roundg (2 - 2)
   case measure=>omega
   case rel=>exact⟨2,by omega,by omega,rfl,hBw,PX,RB,HP,HU,hid (fun _=>I1.out (by omega)),hid (fun _=>I9.out)⟩
  ·replace HR:=hid (HR.out.trans (sg_no (I1.out (by omega)) (I2.out (by omega))))
   clear I1 I2
   have px:=PX.out.cell 0
   simp at px
   go_wp2_with fail
   clear px
   refine (h.first HP.out (by omega)).mono ?_
   rintro e w1 (⟨x1,k1,cs1,hr,hk1,hk2,rfl,hn,hx,hu⟩ | ⟨hr,rfl,hu⟩)
   rotate_left
   ·exact⟨rfl,.inr ⟨HR.out.trans (Pars.and_no hr),rfl,HW.out.updB (HU.out.trans (UpdB.of_upd hu hBw)) hwB⟩⟩
   have hlt1:=got_lt hr rfl
   replace HR:=hid (HR.out.trans (Pars.and_some hr))
   have HN1:Hid (NodeAt w1 (fun g=>B≤g) x1 cs1):=hid (hn.weak (fun g hg=>by omega))
   have hub:=UpdB.of_upd hu hBw
   replace PX:=bg PX hu
   replace RB:=bg RB hu
   replace HP:=hid (HP.out.upd hx hu (by omega))
   replace HU:=hid (HU.out.trans hub)
   replace hBw:=Nat.le_trans hBw hu.size
   clear hub
   clear hr hn hx hu
   obtain⟨v1,hlit,hvo⟩:=NodeAt.lit HN1.out
   rw[hlit] at HN1 ⊢
   have HVO1:=hid hvo
   clear hlit hvo
   have hleX:=HP.out.kle
   go_wp2_with (refine wpList_store_box rfl 24 (.tmp 5) (.tmp 20) rfl w1.heap.size #[.int .i64 x1.kind,.int .i64 x1.num,.string (byt x1.text),v1] rfl rfl 24 _ (Box.new w1 _ _) info_nod rfl (nc_one _ _ _ HVO1.out) ?_;intro w2 hx hv hz;have HZO:=hid hz;clear hz)
   have hb:Below w1.heap.size w1 w2:=((Below.refl _ w1).alloc (Nat.le_refl _) _).trans (hv.own (Nat.le_refl _) (by simp))
   have EB:=hid hx
   have hoB:B≤w1.heap.size:=hBw
   have HNE:Hid (NodeAt w2 (fun g=>B≤g∧g≠w1.heap.size) x1 #[.int .i64 x1.kind,.int .i64 x1.num,.string (byt x1.text),v1]):=hid (NodeAt.keep (fun g hs hg=>⟨hs,by omega⟩) hb.size (fun g _ hg=>hb.block g hg) HN1.out)
   replace PX:=bl PX hb
   replace RB:=bl RB hb
   replace HP:=hid (HP.out.below hb)
   replace HU:=hid (HU.out.trans (UpdB.of_below hb hBw))
   replace hBw:=Nat.le_trans hBw hb.size
   clear hx hv hb HZO HN1
   obtain⟨eb,heb⟩:∃eb,w1.heap.size=eb:=⟨_,rfl⟩
   rw[heb] at EB HNE hoB ⊢
   clear heb
   (try simp only[Act.put])
   go_loopg [22] (ts.length) (fun gg s22 wr=>∃(k' m:Nat) (xe:Pars.Node) (cse:Array Value),ts.length - k'≤gg∧k<k'∧k'≤ts.length∧m≤n∧20 * (ts.length - k')+20<m∧B≤wr.heap.size∧Hid (Box wr pb 106 #[.pointer (some ⟨b,0,none⟩)])∧Hid (Box wr (pb+1) 24 #[.int .i64 0,.int .i64 0,.string ⟨#[]⟩,.slice none 0 0])∧Hid (Box wr eb 24 cse)∧Hid (NodeAt wr (fun g=>B≤g∧g≠eb) xe cse)∧Hid (PSt wr b ts A c k' fn lp)∧Hid (UpdB B W0 wr b)∧Hid (Pars.run (n+1) .unary fn lp (left ts k)=Pars.run m (.post xe) fn lp (left ts k')))
   case atStart=>exact⟨k1,n,x1,_,by omega,by omega,hleX,Nat.le_refl _,by omega,hBw,PX,RB,EB,HNE,HP,HU,HR⟩
   case round=>
    clear PX RB EB HNE HP HU HR hBw
    obtain⟨k',m,xe,cse,hg2,hkk,hkl,hmn,hmm,hBw,PX,RB,EB,HNE,HP,HU,HRR⟩:=hrel
    obtain⟨m',rfl⟩:∃m',m=m'+1:=⟨m - 1,by omega⟩
    have hn:=hall m' (by omega)
    have HR:Hid (Pars.run (n+1) .unary fn lp (left ts k)=_):=hid (HRR.out.trans (by rw[Pars.run]))
    clear HRR
    obtain⟨ve,hlit,hvo⟩:=NodeAt.lit HNE.out
    rw[hlit] at HNE EB
    have HVE:=hid hvo
    clear hlit hvo
    have px:=PX.out.cell 0
    simp at px
    go_wp2_with fail
    clear px
    refine (is_any [40] _ b ts A c (k') fn lp HP.out).mono ?_
    rintro e w3 (⟨hi,hk,rfl,hx,hu⟩ | ⟨hi,rfl,hx,hu⟩)
    ·replace HR:=hid (HR.out.trans (Pars.alt_some hi))
     have hub:=UpdB.of_upd hu hBw
     replace HNE:=hid (HNE.out.upd hu (fun g hg=>by first | omega | (simp only at hg;omega)))
     replace PX:=bg PX hu
     replace RB:=bg RB hu
     replace EB:=bg EB hu
     replace HP:=hid (HP.out.upd hx hu (by omega))
     replace HU:=hid (HU.out.trans hub)
     replace hBw:=Nat.le_trans hBw hu.size
     clear hub
     clear hi hx hu
     have hle3:=HP.out.kle
     have eb0:=EB.out
     have EBB:=EB.out.alloc (.cells #[.int .i64 xe.kind,.int .i64 xe.num,.string (byt xe.text),ve] 24)
     have hne0:=Nat.ne_of_lt EB.out.lt
     go_upto_region 11 with (first | (refine wpList_load_row rfl 24 (.tmp 5) rfl eb rfl _ #[.int .i64 xe.kind,.int .i64 xe.num,.string (byt xe.text),ve] (0,0) _ eb0 Tryz.underlying24 rfl info_nod ?_) | (refine wpList_store_box rfl 24 (.tmp 5) (.tmp 27) rfl eb #[.int .i64 11,.int .i64 0,.string ⟨#[]⟩,.slice (some ⟨w3.heap.size,0,none⟩) 1 1] rfl rfl 24 _ EBB info_nod rfl (nz_one _ _ _ _ _ _) ?_;intro wz OB9 hu9 hz9;have HZ9:=hid hz9;clear hz9))
     have bxB:=Box.new w3 24 #[.int .i64 xe.kind,.int .i64 xe.num,.string (byt xe.text),ve]
     have hb:Below w3.heap.size w3 (w3.alloc (.cells #[.int .i64 xe.kind,.int .i64 xe.num,.string (byt xe.text),ve] 24)):=below1 w3 _
     obtain⟨wb,hwb⟩:∃wb,(w3.alloc (.cells #[.int .i64 xe.kind,.int .i64 xe.num,.string (byt xe.text),ve] 24))=wb:=⟨_,rfl⟩
     rw[hwb] at bxB hb hu9
     clear hwb EBB eb0
     have hgB:B≤w3.heap.size:=hBw
     have hgE:w3.heap.size≠eb:=by have:=EB.out.lt;omega
     have hne1:NodeAt wb (fun g=>B≤g∧g≠eb∧(Value.slice (some ⟨w3.heap.size,0,none⟩) 1 1).ownBlock≠some g) xe #[.int .i64 xe.kind,.int .i64 xe.num,.string (byt xe.text),ve]:=NodeAt.keep (fun g hs hg=>⟨hs.1,hs.2,by simp only[Value.ownBlock];intro e;injection e with e;omega⟩) hb.size (fun g _ hg=>hb.block g hg) HNE.out
     replace PX:=bl PX hb
     replace RB:=bl RB hb
     replace HP:=hid (HP.out.below hb)
     replace HU:=hid (HU.out.trans (UpdB.of_below hb hBw))
     replace hBw:=Nat.le_trans hBw hb.size
     have hkb:=Box.grown bxB hu9 (by intro h;injection h with h;omega)
     have OB:=hid OB9
     replace PX:=bg PX hu9
     replace RB:=bg RB hu9
     have hb9:Below B wb wz:=hu9.own hoB hBw
     replace HP:=hid (HP.out.belowB hb9 hbB HA.out)
     replace HU:=hid (HU.out.trans (UpdB.of_below hb9 (Nat.le_refl _)))
     replace hBw:=Nat.le_trans hBw hb9.size
     have KOF:Hid (KO wz B eb [xe] (Value.slice (some ⟨w3.heap.size,0,none⟩) 1 1)):=hid ⟨by simp only[Value.ownBlock];intro e;injection e with e;exact hgE e,[#[.int .i64 xe.kind,.int .i64 xe.num,.string (byt xe.text),ve]],box_own (cur:=flatA [#[.int .i64 xe.kind,.int .i64 xe.num,.string (byt xe.text),ve]]) hgB hkb (Nat.le_refl _) (by decide) rfl rfl rfl,⟨hne1.upd hu9 (fun g hg=>hg.2.1),trivial⟩⟩
     clear HNE EB hb bxB hu9 hb9 hkb hne1 OB9
     have px:=PX.out.cell 0
     simp at px
     go_wp2_with fail
     clear px
     refine (some_any [41] .expression rfl 132 #[.pointer (some ⟨eb,0,none⟩),.pointer (some ⟨pb,0,none⟩)] eg_un m' B b eb pb ts A c fn lp 11 0 [] (fun q hq=>one_call (hall q (by omega)) B b eb pb ts A c fn lp 11 0 [] hbB hpB hpb hoB HA.out) hbB hpB hpb hoB HA.out _ (k'+1) _ [xe] (by simp) HP.out PX.out OB.out KOF.out hBw (by omega)).mono ?_
     rintro e w4 (⟨ll,k2,kvs,hr,hk2,hkl2,hll,rfl,hox,hko,hx,hu⟩ | ⟨hr,rfl,hu⟩)
     rotate_left
     ·exact⟨rfl,.inr ⟨HR.out.trans (Pars.and_no (some_no hr)),rfl,HW.out.updB (HU.out.trans hu) hwB⟩⟩
     obtain⟨ys,hy,rfl⟩:=some_yes hr
     replace HR:=hid (HR.out.trans (Pars.and_some hy))
     replace HP:=hid (HP.out.updB hx hu hkl2 HA.out)
     replace PX:=hid (PX.out.updB hu hpB hpb)
     replace RB:=hid (RB.out.updB hu hrB hrb)
     replace HU:=hid (HU.out.trans hu)
     replace hBw:=Nat.le_trans hBw hu.size
     replace OB:=hid hox
     replace KOF:=hid hko
     clear hr hy hox hko hx hu
     have hle4:=HP.out.kle
     have HNE:=hid (KOF.out.node 11 0 [])
     have EB:=OB
     go_wp2
     go_roundg (ts.length - (k2))
     case measure=>omega
     case rel=>exact⟨k2,m',_,_,by omega,by omega,HP.out.kle,by omega,by omega,hBw,PX,RB,EB,HNE,HP,HU,HR⟩
    replace HR:=hid (HR.out.trans (Pars.alt_no hi))
    have hub:=UpdB.of_upd hu hBw
    replace HNE:=hid (HNE.out.upd hu (fun g hg=>by first | omega | (simp only at hg;omega)))
    replace PX:=bg PX hu
    replace RB:=bg RB hu
    replace EB:=bg EB hu
    replace HP:=hid (HP.out.upd hx hu (by omega))
    replace HU:=hid (HU.out.trans hub)
    replace hBw:=Nat.le_trans hBw hu.size
    clear hub
    clear hi hx hu
    have px:=PX.out.cell 0
    simp at px
    go_wp2_with fail
    clear px
    refine (is_any [91] _ b ts A c (k') fn lp HP.out).mono ?_
    rintro e w4 (⟨hi,hk,rfl,hx,hu⟩ | ⟨hi,rfl,hx,hu⟩)
    ·replace HR:=hid (HR.out.trans (Pars.alt_some hi))
     have hub:=UpdB.of_upd hu hBw
     replace HNE:=hid (HNE.out.upd hu (fun g hg=>by first | omega | (simp only at hg;omega)))
     replace PX:=bg PX hu
     replace RB:=bg RB hu
     replace EB:=bg EB hu
     replace HP:=hid (HP.out.upd hx hu (by omega))
     replace HU:=hid (HU.out.trans hub)
     replace hBw:=Nat.le_trans hBw hu.size
     clear hub
     clear hi hx hu
     have hle3:=HP.out.kle
     go_upto_region 13 with fail
     refine wp_region_until 5 (fun w'=>Box w' eb 24 #[.int .i64 xe.kind,.int .i64 xe.num,.string (byt xe.text),ve]∧Box w' pb 106 #[.pointer (some ⟨b,0,none⟩)]) (by kernel_rfl) ⟨EB.out.drew,PX.out.drew⟩ (fun hHeld=> ?_)
     obtain⟨wd,hwd⟩:∃wd,w4.drew=wd:=⟨_,rfl⟩
     have hb:Below w4.heap.size w4 wd:=hwd ▸ (Below.refl _ w4).drew
     (try rw[hwd] at hHeld)
     (try rw[hwd])
     clear hwd hHeld
     replace HNE:=hid (HNE.out.below hb)
     replace PX:=bl PX hb
     replace RB:=bl RB hb
     replace EB:=bl EB hb
     replace HP:=hid (HP.out.below hb)
     replace HU:=hid (HU.out.trans (UpdB.of_below hb hBw))
     replace hBw:=Nat.le_trans hBw hb.size
     clear hb
     refine wpAnyU_take (i:=0) (v:= .agg #[.int .i64 xe.kind,.int .i64 xe.num,.string (byt xe.text),ve]) rfl (by kernel_rfl) (by kernel_rfl) (by kernel_rfl) (by kernel_rfl) (by kernel_rfl) (fun _ _ _ h=>h) (yields_load_box (by kernel_rfl) 24 (.tmp 5) rfl eb 24 #[.int .i64 xe.kind,.int .i64 xe.num,.string (byt xe.text),ve] _ rfl (fun _ h=>h.1) Tryz.underlying24 rfl info_nod) ⟨EB.out,PX.out⟩ ?_
     (try simp only[Act.put,sq])
     refine tV (i:=1) (v:= .pointer (some ⟨b,0,none⟩)) rfl ?_ ⟨EB.out,PX.out⟩ ?_
     ·intro w hSw
      have c3:=hSw.2.cell 0
      simp at c3
      go_simp
     (try simp only[Act.put,sq])
     refine rdU 2 rfl fun K hK=> ?_
     go_simp
     refine (hn.expr HP.out (by omega)).mono ?_
     rintro e wc (⟨x1,k2,cs1,hr,hk1,hk2,rfl,hn1,hx,hu⟩ | ⟨hr,rfl,hu⟩)
     rotate_left
     ·exact⟨rfl,.inr ⟨HR.out.trans (Pars.and_no hr),rfl,HW.out.updB (HU.out.trans (UpdB.of_upd hu hBw)) hwB⟩⟩
     have hlt2:=got_lt hr rfl
     replace HR:=hid (HR.out.trans (Pars.and_some hr))
     have HN1:Hid (NodeAt wc (fun g=>B≤g∧g≠eb) x1 cs1):=hid (hn1.weak (fun g hg=>⟨by omega,by have:=EB.out.lt;omega⟩))
     have hub:=UpdB.of_upd hu hBw
     replace HNE:=hid (HNE.out.upd hu (fun g hg=>by first | omega | (simp only at hg;omega)))
     replace PX:=bg PX hu
     replace RB:=bg RB hu
     replace EB:=bg EB hu
     replace HP:=hid (HP.out.upd hx hu (by omega))
     replace HU:=hid (HU.out.trans hub)
     replace hBw:=Nat.le_trans hBw hu.size
     clear hub
     clear hr hn1 hx hu
     obtain⟨v1,hlit,hvo⟩:=NodeAt.lit HN1.out
     rw[hlit] at HN1 ⊢
     have HVO1:=hid hvo
     clear hlit hvo
     have hle4:=HP.out.kle
     go_wp2_with fail
     refine hK.out _ _ (.inr ⟨EB.out,PX.out⟩) (fun hHeld=> ?_)
     clear hK hHeld K
     (try simp only[Act.put,sq])
     refine rdU 3 rfl fun K hK=> ?_
     go_simp
     have bxB:=Box.new wc 24 #[.int .i64 xe.kind,.int .i64 xe.num,.string (byt xe.text),ve,.int .i64 x1.kind,.int .i64 x1.num,.string (byt x1.text),v1]
     have hb:Below wc.heap.size wc (wc.alloc (.cells #[.int .i64 xe.kind,.int .i64 xe.num,.string (byt xe.text),ve,.int .i64 x1.kind,.int .i64 x1.num,.string (byt x1.text),v1] 24)):=below1 wc _
     obtain⟨wb,hwb⟩:∃wb,(wc.alloc (.cells #[.int .i64 xe.kind,.int .i64 xe.num,.string (byt xe.text),ve,.int .i64 x1.kind,.int .i64 x1.num,.string (byt x1.text),v1] 24))=wb:=⟨_,rfl⟩
     rw[hwb] at bxB hb
     rw[hwb]
     clear hwb
     have hgB:B≤wc.heap.size:=hBw
     have hgE:wc.heap.size≠eb:=by have:=EB.out.lt;omega
     replace HNE:=hid (HNE.out.below hb)
     replace HN1:=hid (HN1.out.below hb)
     replace PX:=bl PX hb
     replace RB:=bl RB hb
     replace EB:=bl EB hb
     replace HP:=hid (HP.out.below hb)
     replace HU:=hid (HU.out.trans (UpdB.of_below hb hBw))
     replace hBw:=Nat.le_trans hBw hb.size
     have BXB:=hid bxB
     refine hK.out _ _ (.inr ⟨EB.out,PX.out⟩) (fun hHeld=> ?_)
     clear hK hHeld K
     (try simp only[Act.put,sq])
     clear hb bxB
     obtain⟨kb,hkb⟩:∃kb,wc.heap.size=kb:=⟨_,rfl⟩
     rw[hkb] at BXB hgB hgE ⊢
     clear hkb
     refine tU (i:=4) (v:= ?_) rfl ?_ (.inr ⟨EB.out,PX.out⟩) ?_
     rotate_left
     ·intro w hSw
      go_simp
      try (with_reducible rfl)
     (try simp only[Act.put,sq])
     refine rdU 5 rfl fun K hK=> ?_
     refine step_store_box rfl 24 (.tmp 5) (.tmp 38) rfl eb #[.int .i64 12,.int .i64 0,.string ⟨#[]⟩,.slice (some ⟨kb,0,none⟩) 2 2] rfl rfl 24 _ EB.out info_nod rfl (nz_one _ _ _ _ _ _) ?_
     intro wz OB9 hu9 hz9
     have HNN:Hid (NodeAt wb (fun g=>B≤g∧g≠eb) (.mk 12 0 [] [xe,x1]) #[.int .i64 12,.int .i64 0,.string ⟨#[]⟩,.slice (some ⟨kb,0,none⟩) 2 2]):=hid (NodeAt.build (css:=[#[.int .i64 xe.kind,.int .i64 xe.num,.string (byt xe.text),ve], #[.int .i64 x1.kind,.int .i64 x1.num,.string (byt x1.text),v1]]) 12 0 [] BXB.out ⟨hgB,hgE⟩ ⟨HNE.out,HN1.out,trivial⟩)
     clear BXB
     replace HNE:=hid (HNN.out.upd hu9 (fun g hg=>hg.2))
     replace EB:=hid OB9
     replace PX:=bg PX hu9
     replace RB:=bg RB hu9
     have hb9:Below B wb wz:=hu9.own hoB hBw
     replace HP:=hid (HP.out.belowB hb9 hbB HA.out)
     replace HU:=hid (HU.out.trans (UpdB.of_below hb9 (Nat.le_refl _)))
     replace hBw:=Nat.le_trans hBw hb9.size
     refine hK.out _ _ (.inl rfl) (fun hHeld=> ?_)
     clear hK hHeld K OB9 hu9 hz9 hb9 HNN
     refine wpAnyU_done (by kernel_rfl) ?_ _
     have px:=PX.out.cell 0
     simp at px
     go_wp2_with fail
     clear px
     refine (must_any [93] _ b ts A c (k2) fn lp HP.out).mono ?_
     rintro e w5 (⟨hi,hk,rfl,hx,hu⟩ | ⟨hi,rfl,hu⟩)
     rotate_left
     ·exact⟨rfl,.inr ⟨HR.out.trans (Pars.must_no hi),rfl,HW.out.updB (HU.out.trans (UpdB.of_upd hu hBw)) hwB⟩⟩
     replace HR:=hid (HR.out.trans (Pars.must_some hi))
     have hub:=UpdB.of_upd hu hBw
     replace HNE:=hid (HNE.out.upd hu (fun g hg=>by first | omega | (simp only at hg;omega)))
     replace PX:=bg PX hu
     replace RB:=bg RB hu
     replace EB:=bg EB hu
     replace HP:=hid (HP.out.upd hx hu (by omega))
     replace HU:=hid (HU.out.trans hub)
     replace hBw:=Nat.le_trans hBw hu.size
     clear hub
     clear hi hx hu
     have hle5:=HP.out.kle
     go_wp2
     go_roundg (ts.length - (k2+1))
     case measure=>omega
     case rel=>exact⟨k2+1,m',.mk 12 0 [] [xe,x1],_,by omega,by omega,HP.out.kle,by omega,by omega,hBw,PX,RB,EB,HNE,HP,HU,HR⟩
    replace HR:=hid (HR.out.trans (Pars.alt_no hi))
    have hub:=UpdB.of_upd hu hBw
    replace HNE:=hid (HNE.out.upd hu (fun g hg=>by first | omega | (simp only at hg;omega)))
    replace PX:=bg PX hu
    replace RB:=bg RB hu
    replace EB:=bg EB hu
    replace HP:=hid (HP.out.upd hx hu (by omega))
    replace HU:=hid (HU.out.trans hub)
    replace hBw:=Nat.le_trans hBw hu.size
    clear hub
    clear hi hx hu
    have px:=PX.out.cell 0
    simp at px
    go_wp2_with fail
    clear px
    refine (is_any [46] _ b ts A c (k') fn lp HP.out).mono ?_
    rintro e w5 (⟨hi,hk,rfl,hx,hu⟩ | ⟨hi,rfl,hx,hu⟩)
    ·replace HR:=hid (HR.out.trans (Pars.alt_some hi))
     have hub:=UpdB.of_upd hu hBw
     replace HNE:=hid (HNE.out.upd hu (fun g hg=>by first | omega | (simp only at hg;omega)))
     replace PX:=bg PX hu
     replace RB:=bg RB hu
     replace EB:=bg EB hu
     replace HP:=hid (HP.out.upd hx hu (by omega))
     replace HU:=hid (HU.out.trans hub)
     replace hBw:=Nat.le_trans hBw hu.size
     clear hub
     clear hi hx hu
     have hle3:=HP.out.kle
     go_upto_region 16 with fail
     refine wp_region_until 5 (fun w'=>Box w' eb 24 #[.int .i64 xe.kind,.int .i64 xe.num,.string (byt xe.text),ve]∧Box w' pb 106 #[.pointer (some ⟨b,0,none⟩)]) (by kernel_rfl) ⟨EB.out.drew,PX.out.drew⟩ (fun hHeld=> ?_)
     obtain⟨wd,hwd⟩:∃wd,w5.drew=wd:=⟨_,rfl⟩
     have hb:Below w5.heap.size w5 wd:=hwd ▸ (Below.refl _ w5).drew
     (try rw[hwd] at hHeld)
     (try rw[hwd])
     clear hwd hHeld
     replace HNE:=hid (HNE.out.below hb)
     replace PX:=bl PX hb
     replace RB:=bl RB hb
     replace EB:=bl EB hb
     replace HP:=hid (HP.out.below hb)
     replace HU:=hid (HU.out.trans (UpdB.of_below hb hBw))
     replace hBw:=Nat.le_trans hBw hb.size
     clear hb
     refine tV (i:=0) (v:= .pointer (some ⟨b,0,none⟩)) rfl ?_ ⟨EB.out,PX.out⟩ ?_
     ·intro w hSw
      have c3:=hSw.2.cell 0
      simp at c3
      go_simp
     (try simp only[Act.put,sq])
     refine wpAnyU_take (i:=2) (v:= .agg #[.int .i64 xe.kind,.int .i64 xe.num,.string (byt xe.text),ve]) rfl (by kernel_rfl) (by kernel_rfl) (by kernel_rfl) (by kernel_rfl) (by kernel_rfl) (fun _ _ _ h=>h) (yields_load_box (by kernel_rfl) 24 (.tmp 5) rfl eb 24 #[.int .i64 xe.kind,.int .i64 xe.num,.string (byt xe.text),ve] _ rfl (fun _ h=>h.1) Tryz.underlying24 rfl info_nod) ⟨EB.out,PX.out⟩ ?_
     (try simp only[Act.put,sq])
     refine wpAnyU_ready (rs:=[1,3]) (by kernel_rfl) (by simp) ?_
     refine AllReadyU.cons rfl (fun K hK=> ?_) (AllReadyU.cons rfl (fun K hK=> ?_) AllReadyU.nil)
     ·go_simp
      refine (name_any _ b ts A c (k'+1) fn lp HP.out).mono ?_
      rintro e wc (⟨tn,htn,hk1,hk,rfl,hx,hu⟩ | ⟨hi,rfl,hu⟩)
      rotate_left
      ·exact⟨rfl,.inr ⟨HR.out.trans (named_no hi),rfl,HW.out.updB (HU.out.trans (UpdB.of_upd hu hBw)) hwB⟩⟩
      replace HR:=hid (HR.out.trans (named_at htn hk1))
      obtain⟨nm,hnm⟩:∃q,tn.1.text=q:=⟨_,rfl⟩
      rw[hnm] at HR ⊢
      have hub:=UpdB.of_upd hu hBw
      replace HNE:=hid (HNE.out.upd hu (fun g hg=>by first | omega | (simp only at hg;omega)))
      replace PX:=bg PX hu
      replace RB:=bg RB hu
      replace EB:=bg EB hu
      replace HP:=hid (HP.out.upd hx hu (by omega))
      replace HU:=hid (HU.out.trans hub)
      replace hBw:=Nat.le_trans hBw hu.size
      clear hub
      clear htn hk1 hx hu hnm
      have hle4:=HP.out.kle
      go_wp2_with fail
      refine hK.out _ _ (.inr ⟨EB.out,PX.out⟩) (fun hHeld=> ?_)
      clear hK hHeld K
      (try simp only[Act.put,sq])
      refine rdU 3 rfl fun K hK=> ?_
      go_simp
      have bxB:=Box.new wc 24 #[.int .i64 xe.kind,.int .i64 xe.num,.string (byt xe.text),ve]
      have hb:Below wc.heap.size wc (wc.alloc (.cells #[.int .i64 xe.kind,.int .i64 xe.num,.string (byt xe.text),ve] 24)):=below1 wc _
      obtain⟨wb,hwb⟩:∃wb,(wc.alloc (.cells #[.int .i64 xe.kind,.int .i64 xe.num,.string (byt xe.text),ve] 24))=wb:=⟨_,rfl⟩
      rw[hwb] at bxB hb
      rw[hwb]
      clear hwb
      have hgB:B≤wc.heap.size:=hBw
      have hgE:wc.heap.size≠eb:=by have:=EB.out.lt;omega
      replace HNE:=hid (HNE.out.below hb)
      replace PX:=bl PX hb
      replace RB:=bl RB hb
      replace EB:=bl EB hb
      replace HP:=hid (HP.out.below hb)
      replace HU:=hid (HU.out.trans (UpdB.of_below hb hBw))
      replace hBw:=Nat.le_trans hBw hb.size
      have BXB:=hid bxB
      refine hK.out _ _ (.inr ⟨EB.out,PX.out⟩) (fun hHeld=> ?_)
      clear hK hHeld K
      (try simp only[Act.put,sq])
      clear hb bxB
      obtain⟨kb,hkb⟩:∃kb,wc.heap.size=kb:=⟨_,rfl⟩
      rw[hkb] at BXB hgB hgE ⊢
      clear hkb
      refine tU (i:=4) (v:= ?_) rfl ?_ (.inr ⟨EB.out,PX.out⟩) ?_
      rotate_left
      ·intro w hSw
       go_simp
       try (with_reducible rfl)
      (try simp only[Act.put,sq])
      refine rdU 5 rfl fun K hK=> ?_
      refine step_store_box rfl 24 (.tmp 5) (.tmp 48) rfl eb #[.int .i64 13,.int .i64 0,.string (byt nm),.slice (some ⟨kb,0,none⟩) 1 1] rfl rfl 24 _ EB.out info_nod rfl (nz_one _ _ _ _ _ _) ?_
      intro wz OB9 hu9 hz9
      have HNN:Hid (NodeAt wb (fun g=>B≤g∧g≠eb) (.mk 13 0 nm [xe]) #[.int .i64 13,.int .i64 0,.string (byt nm),.slice (some ⟨kb,0,none⟩) 1 1]):=hid (NodeAt.build (css:=[#[.int .i64 xe.kind,.int .i64 xe.num,.string (byt xe.text),ve]]) 13 0 nm BXB.out ⟨hgB,hgE⟩ ⟨HNE.out,trivial⟩)
      clear BXB
      replace HNE:=hid (HNN.out.upd hu9 (fun g hg=>hg.2))
      replace EB:=hid OB9
      replace PX:=bg PX hu9
      replace RB:=bg RB hu9
      have hb9:Below B wb wz:=hu9.own hoB hBw
      replace HP:=hid (HP.out.belowB hb9 hbB HA.out)
      replace HU:=hid (HU.out.trans (UpdB.of_below hb9 (Nat.le_refl _)))
      replace hBw:=Nat.le_trans hBw hb9.size
      refine hK.out _ _ (.inl rfl) (fun hHeld=> ?_)
      clear hK hHeld K OB9 hu9 hz9 hb9 HNN
      refine wpAnyU_done (by kernel_rfl) ?_ _
      go_wp2
      go_roundg (ts.length - (k'+1+1))
      case measure=>omega
      case rel=>exact⟨k'+1+1,m',.mk 13 0 nm [xe],_,by omega,by omega,HP.out.kle,by omega,by omega,hBw,PX,RB,EB,HNE,HP,HU,HR⟩
     ·go_simp
      have bxB:=Box.new wd 24 #[.int .i64 xe.kind,.int .i64 xe.num,.string (byt xe.text),ve]
      have hb:Below wd.heap.size wd (wd.alloc (.cells #[.int .i64 xe.kind,.int .i64 xe.num,.string (byt xe.text),ve] 24)):=below1 wd _
      obtain⟨wb,hwb⟩:∃wb,(wd.alloc (.cells #[.int .i64 xe.kind,.int .i64 xe.num,.string (byt xe.text),ve] 24))=wb:=⟨_,rfl⟩
      rw[hwb] at bxB hb
      rw[hwb]
      clear hwb
      have hgB:B≤wd.heap.size:=hBw
      have hgE:wd.heap.size≠eb:=by have:=EB.out.lt;omega
      replace HNE:=hid (HNE.out.below hb)
      replace PX:=bl PX hb
      replace RB:=bl RB hb
      replace EB:=bl EB hb
      replace HP:=hid (HP.out.below hb)
      replace HU:=hid (HU.out.trans (UpdB.of_below hb hBw))
      replace hBw:=Nat.le_trans hBw hb.size
      have BXB:=hid bxB
      refine hK.out _ _ (.inr ⟨EB.out,PX.out⟩) (fun hHeld=> ?_)
      clear hK hHeld K
      (try simp only[Act.put,sq])
      clear hb bxB
      obtain⟨kb,hkb⟩:∃kb,wd.heap.size=kb:=⟨_,rfl⟩
      rw[hkb] at BXB hgB hgE ⊢
      clear hkb
      refine rdU 1 rfl fun K hK=> ?_
      go_simp
      refine (name_any _ b ts A c (k'+1) fn lp HP.out).mono ?_
      rintro e wc (⟨tn,htn,hk1,hk,rfl,hx,hu⟩ | ⟨hi,rfl,hu⟩)
      rotate_left
      ·exact⟨rfl,.inr ⟨HR.out.trans (named_no hi),rfl,HW.out.updB (HU.out.trans (UpdB.of_upd hu hBw)) hwB⟩⟩
      replace HR:=hid (HR.out.trans (named_at htn hk1))
      obtain⟨nm,hnm⟩:∃q,tn.1.text=q:=⟨_,rfl⟩
      rw[hnm] at HR ⊢
      have hub:=UpdB.of_upd hu hBw
      replace HNE:=hid (HNE.out.upd hu (fun g hg=>by first | omega | (simp only at hg;omega)))
      replace PX:=bg PX hu
      replace RB:=bg RB hu
      replace EB:=bg EB hu
      replace BXB:=bg BXB hu
      replace HP:=hid (HP.out.upd hx hu (by omega))
      replace HU:=hid (HU.out.trans hub)
      replace hBw:=Nat.le_trans hBw hu.size
      clear hub
      clear htn hk1 hx hu hnm
      have hle4:=HP.out.kle
      go_wp2_with fail
      refine hK.out _ _ (.inr ⟨EB.out,PX.out⟩) (fun hHeld=> ?_)
      clear hK hHeld K
      (try simp only[Act.put,sq])
      refine tU (i:=4) (v:= ?_) rfl ?_ (.inr ⟨EB.out,PX.out⟩) ?_
      rotate_left
      ·intro w hSw
       go_simp
       try (with_reducible rfl)
      (try simp only[Act.put,sq])
      refine rdU 5 rfl fun K hK=> ?_
      refine step_store_box rfl 24 (.tmp 5) (.tmp 48) rfl eb #[.int .i64 13,.int .i64 0,.string (byt nm),.slice (some ⟨kb,0,none⟩) 1 1] rfl rfl 24 _ EB.out info_nod rfl (nz_one _ _ _ _ _ _) ?_
      intro wz OB9 hu9 hz9
      have HNN:Hid (NodeAt wc (fun g=>B≤g∧g≠eb) (.mk 13 0 nm [xe]) #[.int .i64 13,.int .i64 0,.string (byt nm),.slice (some ⟨kb,0,none⟩) 1 1]):=hid (NodeAt.build (css:=[#[.int .i64 xe.kind,.int .i64 xe.num,.string (byt xe.text),ve]]) 13 0 nm BXB.out ⟨hgB,hgE⟩ ⟨HNE.out,trivial⟩)
      clear BXB
      replace HNE:=hid (HNN.out.upd hu9 (fun g hg=>hg.2))
      replace EB:=hid OB9
      replace PX:=bg PX hu9
      replace RB:=bg RB hu9
      have hb9:Below B wc wz:=hu9.own hoB hBw
      replace HP:=hid (HP.out.belowB hb9 hbB HA.out)
      replace HU:=hid (HU.out.trans (UpdB.of_below hb9 (Nat.le_refl _)))
      replace hBw:=Nat.le_trans hBw hb9.size
      refine hK.out _ _ (.inl rfl) (fun hHeld=> ?_)
      clear hK hHeld K OB9 hu9 hz9 hb9 HNN
      refine wpAnyU_done (by kernel_rfl) ?_ _
      go_wp2
      go_roundg (ts.length - (k'+1+1))
      case measure=>omega
      case rel=>exact⟨k'+1+1,m',.mk 13 0 nm [xe],_,by omega,by omega,HP.out.kle,by omega,by omega,hBw,PX,RB,EB,HNE,HP,HU,HR⟩
    replace HR:=hid (HR.out.trans (Pars.alt_no hi))
    have hub:=UpdB.of_upd hu hBw
    replace HNE:=hid (HNE.out.upd hu (fun g hg=>by first | omega | (simp only at hg;omega)))
    replace PX:=bg PX hu
    replace RB:=bg RB hu
    replace EB:=bg EB hu
    replace HP:=hid (HP.out.upd hx hu (by omega))
    replace HU:=hid (HU.out.trans hub)
    replace hBw:=Nat.le_trans hBw hu.size
    clear hub
    clear hi hx hu
    have hle9:=HP.out.kle
    have ob:=EB.out
    go_wp2_with (first | (refine wpList_load_row rfl 24 (.tmp 5) rfl eb rfl _ #[.int .i64 xe.kind,.int .i64 xe.num,.string (byt xe.text),ve] (0,0) _ ob Tryz.underlying24 rfl info_nod ?_) | (refine wpList_store_box rfl 24 (.tmp 2) (.tmp 21) rfl (pb+1) #[.int .i64 xe.kind,.int .i64 xe.num,.string (byt xe.text),ve] rfl rfl 24 _ RB.out info_nod rfl (nc_one _ _ _ HVE.out) ?_;intro wy hxz huz hzz;have HZZ:=hid hzz;clear hzz))
    refine bodyPost_ret (results_box rfl _ _ (pb+1) 24 _ _ rfl hxz Tryz.underlying24 rfl info_nod) rfl ?_
    exact .inl ⟨xe,k',_,HR.out,by omega,HP.out.kle,rfl,(HNE.out.upd huz (fun g hg=>by have:=hg.1;omega)).weak (fun g hg=>by have:=hg.1;omega),Box.grown HP.out.box huz (by intro h;injection h with h;omega),Upd.fresh (HW.out.updB HU.out hwB) huz (by have:=HPB.out;omega)⟩
end Go.Proofs.YtflmjbmdmoifhaaGreatDoor
namespace Go.Proofs.YtflmjbmdmoifhaaGreatDoor
open Go.Lib (hid)
open Go.RowKit
theorem tok_cells (ts:List KT) (k:Nat):∃(tcs:Array Value) (KD:Nat) (TX:List UInt8) (NU:Int),here ts k=tcs∧tcs[0]? =some (.int .i64 (KD:Int))∧tcs[3]? =some (.string (byt TX))∧tcs[4]? =some (.int .i64 NU)∧(5:Nat)=tcs.size∧tcs.all (·.oneCell')=true∧
  (∀q,q≠0→KD≠q→∀(f:Lexy.Tk→List Lexy.Tk→Pars.R) (g:Pars.R),Pars.tok q (left ts k) f g=g)∧(∀q,q≠0→KD=q→∃t:Lexy.Tk,k<ts.length∧t.text=TX∧(t.num:Int)=NU∧∀(f:Lexy.Tk→List Lexy.Tk→Pars.R) (g:Pars.R),Pars.tok q (left ts k) f g=f t (left ts (k+1))):=by
 refine⟨here ts k,?_⟩
 cases ht:ts[k]? with
 | none=>
  refine⟨0,[],0,rfl,by unfold here;rw[ht];rfl,by unfold here;rw[ht];rfl,by unfold here;rw[ht];rfl,(ktok_size ts k).symm,ktok_one ts k,fun q hq hk f g=> ?_,fun q hq hk=>absurd hk.symm hq⟩
  rw[left_nil (List.getElem?_eq_none_iff.1 ht)]
  rfl
 | some t=>
  have hk:=(List.getElem?_eq_some_iff.1 ht).1
  refine⟨t.1.kind,t.1.text,t.1.num,rfl,by unfold here;rw[ht];rfl,by unfold here;rw[ht];rfl,by unfold here;rw[ht];rfl,(ktok_size ts k).symm,ktok_one ts k,fun q hq hn f g=> ?_,fun q hq he=>⟨t.1,hk,rfl,rfl,fun f g=> ?_⟩⟩
  ·rw[left_cons ht]
   simp only[Pars.tok]
   rw[if_neg hn]
  ·rw[left_cons ht]
   simp only[Pars.tok]
   rw[if_pos he]
set_option maxRecDepth 100000 in
set_option maxHeartbeats 4000000 in
theorem first_step {n:Nat} (hall:∀m,m≤n→All m):∀{w:World} {b:Nat} {ts:List KT} {A:Option Addr} {c k:Nat} {fn lp:Bool},PSt w b ts A c k fn lp→20 * (ts.length - k)+2<n+1→Calls Tryz.prog 131 #[.pointer (some ⟨b,0,none⟩)] w (Got w b ts A c k fn lp (Pars.run (n+1) .first fn lp (left ts k))):=by
 have h:=hall n (Nat.le_refl _)
 intro w b ts A c k fn lp hP hm
 have HR:Hid (Pars.run (n+1) .first fn lp (left ts k)=_):=hid (by rw[Pars.run])
 have hbl:=hP.box.lt
 have hle:=hP.kle
 go_enter Tryz.func131,Tryz.ntmps131
 go_upto_region 1 with fail
 refine gen_world (F:=fun W=>Box W w.heap.size 106 #[.pointer (some ⟨b,0,none⟩)]∧Box W (w.heap.size+1) 24 #[.int .i64 0,.int .i64 0,.string ⟨#[]⟩,.slice none 0 0]∧Below w.heap.size w W) ⟨(Box.new w _ _).alloc _,new2 w _ _ _,(below1 w _).alloc (by simp) _⟩ ?_
 rintro W0 ⟨p0,r0,hU⟩
 obtain⟨i0,hi0,hi1,hi2,hi3⟩:=info_parts parts_nod
 have hlen:=hP.len
 obtain⟨pb,hpbe⟩:∃q,w.heap.size=q:=⟨_,rfl⟩
 obtain⟨B,hBe⟩:∃q,W0.heap.size=q:=⟨_,rfl⟩
 have hpb:pb≠b:=by omega
 have hrb:pb+1≠b:=by omega
 have hrB:pb+1<B:=by have:=r0.lt;omega
 have hpB:pb<B:=by omega
 have hbB:b<B:=by omega
 have hwB:w.heap.size≤B:=by omega
 have hpw:w.heap.size=pb:=hpbe
 have HPB:=hid hpbe
 have HBE:=hid hBe
 rw[hpbe] at p0 r0 ⊢
 clear hpbe hpw
 have PX:=hid p0
 have RB:=hid r0
 have HP:=hid (hP.below hU)
 have HA:Hid (0<ts.length→∀g o,A=some ⟨g,o,none⟩→g<B):=hid (hBe ▸ HP.out.old)
 have HW:Hid (Upd w W0 b):=hid (Upd.below hU b)
 have HU:Hid (UpdB B W0 W0 b):=hid (UpdB.refl _ _ _)
 have hBw:B≤W0.heap.size:=Nat.le_of_eq hBe.symm
 clear p0 r0 hU hP hBe
 obtain⟨tcs,KD,TX,NU,hqs,hq0,hq3,hq4,hq5,hqo,hqn,hqy⟩:=tok_cells ts k
 have px:=PX.out.cell 0
 simp at px
 go_wp2_with fail
 clear px
 refine (peek_any _ b ts A c k fn lp HP.out).mono ?_
 rintro e wp ⟨rfl,hb⟩
 rw[hqs]
 clear hqs
 have HQN:=hid hqn
 have HQY:=hid hqy
 have HT5:=hid hq5
 have HTO:=hid hqo
 have HTS:Hid ((Tryz.prog.info? 58).map (·.size)=some tcs.size):=hid (by rw[←hq5];exact info_tok)
 clear hq5 hqo hqn hqy
 replace PX:=bl PX hb
 replace RB:=bl RB hb
 replace HP:=hid (HP.out.below hb)
 replace HU:=hid (HU.out.trans (UpdB.of_below hb hBw))
 replace hBw:=Nat.le_trans hBw hb.size
 clear hb
 go_upto_region 2 with (refine wpList_store_box rfl 58 (.tmp 3) (.tmp 7) rfl wp.heap.size tcs rfl rfl 58 _ (Box.new wp _ _) HTS.out HT5.out HTO.out ?_;intro wq hxq huq hzq;have HZQ:=hid hzq;clear hzq)
 have hb:Below wp.heap.size wp wq:=((Below.refl _ wp).alloc (Nat.le_refl _) _).trans (huq.own (Nat.le_refl _) (by simp))
 have TB:=hid hxq
 have p0:=(hxq.cell 0).trans hq0
 have hbt:b<wp.heap.size:=by omega
 replace PX:=bl PX hb
 replace RB:=bl RB hb
 replace HP:=hid (HP.out.below hb)
 replace HU:=hid (HU.out.trans (UpdB.of_below hb hBw))
 replace hBw:=Nat.le_trans hBw hb.size
 clear hb hxq huq HZQ
 have HQ3:=hid hq3
 have HQ4:=hid hq4
 clear hq0 hq3 hq4
 obtain⟨tb,htb⟩:∃tb,wp.heap.size=tb:=⟨_,rfl⟩
 rw[htb] at TB p0 hbt ⊢
 clear htb
 by_cases y2:KD=2
 ·subst y2
  obtain⟨tk,hkl,htx,hnu,hall2⟩:=HQY.out 2 (by decide) rfl
  replace HR:=hid (HR.out.trans (hall2 _ _))
  (try rw[htx] at HR)
  (try rw[hnu] at HR)
  clear htx hnu hall2
  have kb:=HP.out.box.cell 1
  simp[pc] at kb
  have kf:wq.frozen? ⟨b,1,none⟩=false:=HP.out.box.frozen 1
  have wk:IntKind.i64.wrap ((k:Int)+1)=(k:Int)+1:=by rw[IntKind.wrap_i64];omega
  have px:=PX.out.cell 0
  simp at px
  go_upto_region 5 with fail
  clear px kb kf p0
  refine gen_world (F:=fun W=>Box W b 108 (pc (.slice A ts.length c) (k+1) fn lp)∧Upd wq W b) ⟨HP.out.box.set 1 (.int .i64 ((k:Int)+1)),(Upd.refl _ b).set (.inl rfl) _⟩ ?_
  rintro wr ⟨hx,hu⟩
  have TB2:Box wr tb 58 tcs:=Box.grown TB.out hu (by intro h;injection h with h;omega)
  have hub:=UpdB.of_upd hu hBw
  replace PX:=bg PX hu
  replace RB:=bg RB hu
  replace HP:=hid (HP.out.upd hx hu (by omega))
  replace HU:=hid (HU.out.trans hub)
  replace hBw:=Nat.le_trans hBw hu.size
  clear hub
  clear hx hu
  have tl:=(TB2.cell 4).trans HQ4.out
  clear TB2
  go_wp2_with (refine wpList_store_box rfl 24 (.tmp 2) (.tmp 21) rfl (pb+1) #[.int .i64 1,.int .i64 NU,.string ⟨#[]⟩,.slice none 0 0] rfl rfl 24 _ RB.out info_nod rfl (nz_one _ _ _ _ _ _) ?_;intro wz hxz huz hzz;have HZZ:=hid hzz;clear hzz)
  refine bodyPost_ret (results_box rfl _ _ (pb+1) 24 _ _ rfl hxz Tryz.underlying24 rfl info_nod) rfl ?_
  exact .inl ⟨.mk 1 NU [] [],k+1,_,HR.out,by omega,HP.out.kle,rfl,NodeAt.leaf _ _ 1 NU [],Box.grown HP.out.box huz (by intro h;injection h with h;omega),Upd.fresh (HW.out.updB HU.out hwB) huz (by have:=HPB.out;omega)⟩
 replace HR:=hid (HR.out.trans (HQN.out 2 (by decide) y2 _ _))
 have n2:((KD:Int)==2)=false:=by rw[beq_eq_false_iff_ne];omega
 have m2:¬(KD:Int)=2:=by omega
 by_cases y3:KD=3
 ·subst y3
  obtain⟨tk,hkl,htx,hnu,hall2⟩:=HQY.out 3 (by decide) rfl
  replace HR:=hid (HR.out.trans (hall2 _ _))
  (try rw[htx] at HR)
  (try rw[hnu] at HR)
  clear htx hnu hall2
  have kb:=HP.out.box.cell 1
  simp[pc] at kb
  have kf:wq.frozen? ⟨b,1,none⟩=false:=HP.out.box.frozen 1
  have wk:IntKind.i64.wrap ((k:Int)+1)=(k:Int)+1:=by rw[IntKind.wrap_i64];omega
  have px:=PX.out.cell 0
  simp at px
  go_upto_region 8 with fail
  clear px kb kf p0
  refine gen_world (F:=fun W=>Box W b 108 (pc (.slice A ts.length c) (k+1) fn lp)∧Upd wq W b) ⟨HP.out.box.set 1 (.int .i64 ((k:Int)+1)),(Upd.refl _ b).set (.inl rfl) _⟩ ?_
  rintro wr ⟨hx,hu⟩
  have TB2:Box wr tb 58 tcs:=Box.grown TB.out hu (by intro h;injection h with h;omega)
  have hub:=UpdB.of_upd hu hBw
  replace PX:=bg PX hu
  replace RB:=bg RB hu
  replace HP:=hid (HP.out.upd hx hu (by omega))
  replace HU:=hid (HU.out.trans hub)
  replace hBw:=Nat.le_trans hBw hu.size
  clear hub
  clear hx hu
  have tl:=(TB2.cell 3).trans HQ3.out
  clear TB2
  go_wp2_with (refine wpList_store_box rfl 24 (.tmp 2) (.tmp 33) rfl (pb+1) #[.int .i64 2,.int .i64 0,.string (byt TX),.slice none 0 0] rfl rfl 24 _ RB.out info_nod rfl (nz_one _ _ _ _ _ _) ?_;intro wz hxz huz hzz;have HZZ:=hid hzz;clear hzz)
  refine bodyPost_ret (results_box rfl _ _ (pb+1) 24 _ _ rfl hxz Tryz.underlying24 rfl info_nod) rfl ?_
  exact .inl ⟨.mk 2 0 TX [],k+1,_,HR.out,by omega,HP.out.kle,rfl,NodeAt.leaf _ _ 2 0 TX,Box.grown HP.out.box huz (by intro h;injection h with h;omega),Upd.fresh (HW.out.updB HU.out hwB) huz (by have:=HPB.out;omega)⟩
 replace HR:=hid (HR.out.trans (HQN.out 3 (by decide) y3 _ _))
 have n3:((KD:Int)==3)=false:=by rw[beq_eq_false_iff_ne];omega
 have m3:¬(KD:Int)=3:=by omega
 by_cases y1:KD=1
 ·subst y1
  obtain⟨tk,hkl,htx,hnu,hall2⟩:=HQY.out 1 (by decide) rfl
  replace HR:=hid (HR.out.trans (hall2 _ _))
  (try rw[htx] at HR)
  (try rw[hnu] at HR)
  clear htx hnu hall2
  have kb:=HP.out.box.cell 1
  simp[pc] at kb
  have kf:wq.frozen? ⟨b,1,none⟩=false:=HP.out.box.frozen 1
  have wk:IntKind.i64.wrap ((k:Int)+1)=(k:Int)+1:=by rw[IntKind.wrap_i64];omega
  have px:=PX.out.cell 0
  simp at px
  go_upto_region 11 with fail
  clear px kb kf p0
  refine gen_world (F:=fun W=>Box W b 108 (pc (.slice A ts.length c) (k+1) fn lp)∧Upd wq W b) ⟨HP.out.box.set 1 (.int .i64 ((k:Int)+1)),(Upd.refl _ b).set (.inl rfl) _⟩ ?_
  rintro wr ⟨hx,hu⟩
  have TB2:Box wr tb 58 tcs:=Box.grown TB.out hu (by intro h;injection h with h;omega)
  have hub:=UpdB.of_upd hu hBw
  replace PX:=bg PX hu
  replace RB:=bg RB hu
  replace HP:=hid (HP.out.upd hx hu (by omega))
  replace HU:=hid (HU.out.trans hub)
  replace hBw:=Nat.le_trans hBw hu.size
  clear hub
  clear hx hu
  have tl:=(TB2.cell 3).trans HQ3.out
  clear TB2
  go_wp2_with (refine wpList_store_box rfl 24 (.tmp 2) (.tmp 45) rfl (pb+1) #[.int .i64 5,.int .i64 0,.string (byt TX),.slice none 0 0] rfl rfl 24 _ RB.out info_nod rfl (nz_one _ _ _ _ _ _) ?_;intro wz hxz huz hzz;have HZZ:=hid hzz;clear hzz)
  refine bodyPost_ret (results_box rfl _ _ (pb+1) 24 _ _ rfl hxz Tryz.underlying24 rfl info_nod) rfl ?_
  exact .inl ⟨.mk 5 0 TX [],k+1,_,HR.out,by omega,HP.out.kle,rfl,NodeAt.leaf _ _ 5 0 TX,Box.grown HP.out.box huz (by intro h;injection h with h;omega),Upd.fresh (HW.out.updB HU.out hwB) huz (by have:=HPB.out;omega)⟩
 replace HR:=hid (HR.out.trans (HQN.out 1 (by decide) y1 _ _))
 have n1:((KD:Int)==1)=false:=by rw[beq_eq_false_iff_ne];omega
 have m1:¬(KD:Int)=1:=by omega
 clear HQN HQY TB HQ3 HQ4 hbt
 have px:=PX.out.cell 0
 simp at px
 go_wp2_with fail
 clear px
 refine (is_any Pars.wTrue _ b ts A c (k) fn lp HP.out).mono ?_
 rintro e i1 (⟨hi,hk,rfl,hx,hu⟩ | ⟨hi,rfl,hx,hu⟩)
 ·replace HR:=hid (HR.out.trans (Pars.alt_some hi))
  have hub:=UpdB.of_upd hu hBw
  replace PX:=bg PX hu
  replace RB:=bg RB hu
  replace HP:=hid (HP.out.upd hx hu (by omega))
  replace HU:=hid (HU.out.trans hub)
  replace hBw:=Nat.le_trans hBw hu.size
  clear hub
  clear hi hx hu
  have hleA:=HP.out.kle
  go_wp2_with (refine wpList_store_box rfl 24 (.tmp 2) (.tmp 49) rfl (pb+1) #[.int .i64 3,.int .i64 1,.string ⟨#[]⟩,.slice none 0 0] rfl rfl 24 _ RB.out info_nod rfl (nz_one _ _ _ _ _ _) ?_;intro wz hxz huz hzz;have HZZ:=hid hzz;clear hzz)
  refine bodyPost_ret (results_box rfl _ _ (pb+1) 24 _ _ rfl hxz Tryz.underlying24 rfl info_nod) rfl ?_
  exact .inl ⟨.mk 3 1 [] [],k+1,_,HR.out,by omega,HP.out.kle,rfl,NodeAt.leaf _ _ 3 1 [],Box.grown HP.out.box huz (by intro h;injection h with h;omega),Upd.fresh (HW.out.updB HU.out hwB) huz (by have:=HPB.out;omega)⟩
 replace HR:=hid (HR.out.trans (Pars.alt_no hi))
 have hub:=UpdB.of_upd hu hBw
 replace PX:=bg PX hu
 replace RB:=bg RB hu
 replace HP:=hid (HP.out.upd hx hu (by omega))
 replace HU:=hid (HU.out.trans hub)
 replace hBw:=Nat.le_trans hBw hu.size
 clear hub
 clear hi hx hu
 have px:=PX.out.cell 0
 simp at px
 go_wp2_with fail
 clear px
 refine (is_any Pars.wFalse _ b ts A c (k) fn lp HP.out).mono ?_
 rintro e i2 (⟨hi,hk,rfl,hx,hu⟩ | ⟨hi,rfl,hx,hu⟩)
 ·replace HR:=hid (HR.out.trans (Pars.alt_some hi))
  have hub:=UpdB.of_upd hu hBw
  replace PX:=bg PX hu
  replace RB:=bg RB hu
  replace HP:=hid (HP.out.upd hx hu (by omega))
  replace HU:=hid (HU.out.trans hub)
  replace hBw:=Nat.le_trans hBw hu.size
  clear hub
  clear hi hx hu
  have hleA:=HP.out.kle
  go_wp2_with (refine wpList_store_box rfl 24 (.tmp 2) (.tmp 53) rfl (pb+1) #[.int .i64 3,.int .i64 0,.string ⟨#[]⟩,.slice none 0 0] rfl rfl 24 _ RB.out info_nod rfl (nz_one _ _ _ _ _ _) ?_;intro wz hxz huz hzz;have HZZ:=hid hzz;clear hzz)
  refine bodyPost_ret (results_box rfl _ _ (pb+1) 24 _ _ rfl hxz Tryz.underlying24 rfl info_nod) rfl ?_
  exact .inl ⟨.mk 3 0 [] [],k+1,_,HR.out,by omega,HP.out.kle,rfl,NodeAt.leaf _ _ 3 0 [],Box.grown HP.out.box huz (by intro h;injection h with h;omega),Upd.fresh (HW.out.updB HU.out hwB) huz (by have:=HPB.out;omega)⟩
 replace HR:=hid (HR.out.trans (Pars.alt_no hi))
 have hub:=UpdB.of_upd hu hBw
 replace PX:=bg PX hu
 replace RB:=bg RB hu
 replace HP:=hid (HP.out.upd hx hu (by omega))
 replace HU:=hid (HU.out.trans hub)
 replace hBw:=Nat.le_trans hBw hu.size
 clear hub
 clear hi hx hu
 have px:=PX.out.cell 0
 simp at px
 go_wp2_with fail
 clear px
 refine (is_any Pars.wNull _ b ts A c (k) fn lp HP.out).mono ?_
 rintro e i3 (⟨hi,hk,rfl,hx,hu⟩ | ⟨hi,rfl,hx,hu⟩)
 ·replace HR:=hid (HR.out.trans (Pars.alt_some hi))
  have hub:=UpdB.of_upd hu hBw
  replace PX:=bg PX hu
  replace RB:=bg RB hu
  replace HP:=hid (HP.out.upd hx hu (by omega))
  replace HU:=hid (HU.out.trans hub)
  replace hBw:=Nat.le_trans hBw hu.size
  clear hub
  clear hi hx hu
  have hleA:=HP.out.kle
  go_wp2_with (refine wpList_store_box rfl 24 (.tmp 2) (.tmp 57) rfl (pb+1) #[.int .i64 4,.int .i64 0,.string ⟨#[]⟩,.slice none 0 0] rfl rfl 24 _ RB.out info_nod rfl (nz_one _ _ _ _ _ _) ?_;intro wz hxz huz hzz;have HZZ:=hid hzz;clear hzz)
  refine bodyPost_ret (results_box rfl _ _ (pb+1) 24 _ _ rfl hxz Tryz.underlying24 rfl info_nod) rfl ?_
  exact .inl ⟨.mk 4 0 [] [],k+1,_,HR.out,by omega,HP.out.kle,rfl,NodeAt.leaf _ _ 4 0 [],Box.grown HP.out.box huz (by intro h;injection h with h;omega),Upd.fresh (HW.out.updB HU.out hwB) huz (by have:=HPB.out;omega)⟩
 replace HR:=hid (HR.out.trans (Pars.alt_no hi))
 have hub:=UpdB.of_upd hu hBw
 replace PX:=bg PX hu
 replace RB:=bg RB hu
 replace HP:=hid (HP.out.upd hx hu (by omega))
 replace HU:=hid (HU.out.trans hub)
 replace hBw:=Nat.le_trans hBw hu.size
 clear hub
 clear hi hx hu
 have px:=PX.out.cell 0
 simp at px
 go_wp2_with fail
 clear px
 refine (is_any Pars.wFn _ b ts A c (k) fn lp HP.out).mono ?_
 rintro e i4 (⟨hi,hk,rfl,hx,hu⟩ | ⟨hi,rfl,hx,hu⟩)
 ·replace HR:=hid (HR.out.trans (Pars.alt_some hi))
  have hub:=UpdB.of_upd hu hBw
  replace PX:=bg PX hu
  replace RB:=bg RB hu
  replace HP:=hid (HP.out.upd hx hu (by omega))
  replace HU:=hid (HU.out.trans hub)
  replace hBw:=Nat.le_trans hBw hu.size
  clear hub
  clear hi hx hu
  have hleA:=HP.out.kle
  have px:=PX.out.cell 0
  simp at px
  go_wp2_with fail
  clear px
  refine (h.func [] HP.out (by omega)).mono ?_
  rintro e wd (⟨x1,k1,cs1,hr,hk1,hk2,rfl,hn,hx,hu⟩ | ⟨hr,rfl,hu⟩)
  rotate_left
  ·exact⟨rfl,.inr ⟨HR.out.trans (hr),rfl,HW.out.updB (HU.out.trans (UpdB.of_upd hu hBw)) hwB⟩⟩
  replace HR:=hid (HR.out.trans hr)
  have HN1:Hid (NodeAt wd (fun g=>B≤g) x1 cs1):=hid (hn.weak (fun g hg=>by omega))
  have hub:=UpdB.of_upd hu hBw
  replace PX:=bg PX hu
  replace RB:=bg RB hu
  replace HP:=hid (HP.out.upd hx hu (by omega))
  replace HU:=hid (HU.out.trans hub)
  replace hBw:=Nat.le_trans hBw hu.size
  clear hub
  clear hr hn hx hu
  obtain⟨v1,hlit,hvo⟩:=NodeAt.lit HN1.out
  rw[hlit] at HN1 ⊢
  have HVO1:=hid hvo
  clear hlit hvo
  have hleX:=HP.out.kle
  go_wp2_with (refine wpList_store_box rfl 24 (.tmp 2) (.tmp 62) rfl (pb+1) #[.int .i64 x1.kind,.int .i64 x1.num,.string (byt x1.text),v1] rfl rfl 24 _ RB.out info_nod rfl (nc_one _ _ _ HVO1.out) ?_;intro wz hxz huz hzz;have HZZ:=hid hzz;clear hzz)
  refine bodyPost_ret (results_box rfl _ _ (pb+1) 24 _ _ rfl hxz Tryz.underlying24 rfl info_nod) rfl ?_
  exact .inl ⟨x1,k1,_,HR.out,by omega,HP.out.kle,rfl,(HN1.out.upd huz (fun g hg=>by have:B≤g:=hg;omega)).weak (fun g hg=>by have:B≤g:=hg;omega),Box.grown HP.out.box huz (by intro h;injection h with h;omega),Upd.fresh (HW.out.updB HU.out hwB) huz (by have:=HPB.out;omega)⟩
 replace HR:=hid (HR.out.trans (Pars.alt_no hi))
 have hub:=UpdB.of_upd hu hBw
 replace PX:=bg PX hu
 replace RB:=bg RB hu
 replace HP:=hid (HP.out.upd hx hu (by omega))
 replace HU:=hid (HU.out.trans hub)
 replace hBw:=Nat.le_trans hBw hu.size
 clear hub
 clear hi hx hu
 have px:=PX.out.cell 0
 simp at px
 go_wp2_with fail
 clear px
 refine (is_any [91] _ b ts A c (k) fn lp HP.out).mono ?_
 rintro e i5 (⟨hi,hk,rfl,hx,hu⟩ | ⟨hi,rfl,hx,hu⟩)
 ·replace HR:=hid (HR.out.trans (Pars.alt_some hi))
  have hub:=UpdB.of_upd hu hBw
  replace PX:=bg PX hu
  replace RB:=bg RB hu
  replace HP:=hid (HP.out.upd hx hu (by omega))
  replace HU:=hid (HU.out.trans hub)
  replace hBw:=Nat.le_trans hBw hu.size
  clear hub
  clear hi hx hu
  have hleA:=HP.out.kle
  go_upto_region 22 with (refine wpList_store_box rfl 24 (.tmp 4) (.tmp 66) rfl i5.heap.size #[.int .i64 6,.int .i64 0,.string ⟨#[]⟩,.slice none 0 0] rfl rfl 24 _ (Box.new i5 _ _) info_nod rfl (nc_one _ _ _ rfl) ?_;intro wl hx hv hz;have HZO:=hid hz;clear hz)
  have hb:Below i5.heap.size i5 wl:=((Below.refl _ i5).alloc (Nat.le_refl _) _).trans (hv.own (Nat.le_refl _) (by simp))
  have OB:Hid (Box wl i5.heap.size 24 (nc 6 0 [] (.slice none 0 0))):=hid hx
  have hoB:B≤i5.heap.size:=hBw
  replace PX:=bl PX hb
  replace RB:=bl RB hb
  replace HP:=hid (HP.out.below hb)
  replace HU:=hid (HU.out.trans (UpdB.of_below hb hBw))
  replace hBw:=Nat.le_trans hBw hb.size
  have KOF:=hid (KO.nil wl B i5.heap.size)
  clear hx hv hb HZO
  obtain⟨oa,hoa⟩:∃oa,i5.heap.size=oa:=⟨_,rfl⟩
  rw[hoa] at OB KOF hoB ⊢
  clear hoa
  (try simp only[Act.put])
  have px:=PX.out.cell 0
  simp at px
  go_wp2_with fail
  clear px
  refine (some_any [93] .expression rfl 135 #[.pointer (some ⟨oa,0,none⟩),.pointer (some ⟨pb,0,none⟩)] eg_l n B b oa pb ts A c fn lp 6 0 [] (fun q hq=>one_list (hall q (by omega)) B b oa pb ts A c fn lp 6 0 [] hbB hpB hpb hoB HA.out) hbB hpB hpb hoB HA.out _ (k+1) _ [] (by simp) HP.out PX.out OB.out KOF.out hBw (by omega)).mono ?_
  rintro e wm (⟨ll,k1,kvs,hr,hk1,hkl1,hll,rfl,hox,hko,hx,hu⟩ | ⟨hr,rfl,hu⟩)
  rotate_left
  ·exact⟨rfl,.inr ⟨HR.out.trans (Pars.and_no (some_no hr)),rfl,HW.out.updB (HU.out.trans hu) hwB⟩⟩
  obtain⟨ys,hy,rfl⟩:=some_yes hr
  replace HR:=hid (HR.out.trans (Pars.and_some hy))
  replace HP:=hid (HP.out.updB hx hu hkl1 HA.out)
  replace PX:=hid (PX.out.updB hu hpB hpb)
  replace RB:=hid (RB.out.updB hu hrB hrb)
  replace HU:=hid (HU.out.trans hu)
  replace hBw:=Nat.le_trans hBw hu.size
  replace OB:=hid hox
  replace KOF:=hid hko
  clear hr hy hox hko hx hu
  have hleB:=HP.out.kle
  rw[List.nil_append] at KOF
  have ob:=OB.out
  go_wp2_with (first | (refine wpList_load_row rfl 24 (.tmp 4) rfl (oa) rfl _ (nc 6 0 [] kvs) (0,0) _ ob Tryz.underlying24 rfl info_nod ?_) | (refine wpList_store_box rfl 24 (.tmp 2) (.tmp 70) rfl (pb+1) (nc 6 0 [] kvs) rfl rfl 24 _ RB.out info_nod rfl (nc_own _ _ _ KOF.out) ?_;intro wy hxz huz hzz;have HZZ:=hid hzz;clear hzz))
  refine bodyPost_ret (results_box rfl _ _ (pb+1) 24 _ _ rfl hxz Tryz.underlying24 rfl info_nod) rfl ?_
  exact .inl ⟨.mk 6 0 [] (ys.kids),k1,_,HR.out,by omega,HP.out.kle,rfl,((KOF.out.node 6 0 []).upd huz (fun g hg=>by have:=hg.1;omega)).weak (fun g hg=>by have:=hg.1;omega),Box.grown HP.out.box huz (by intro h;injection h with h;omega),Upd.fresh (HW.out.updB HU.out hwB) huz (by have:=HPB.out;omega)⟩
 replace HR:=hid (HR.out.trans (Pars.alt_no hi))
 have hub:=UpdB.of_upd hu hBw
 replace PX:=bg PX hu
 replace RB:=bg RB hu
 replace HP:=hid (HP.out.upd hx hu (by omega))
 replace HU:=hid (HU.out.trans hub)
 replace hBw:=Nat.le_trans hBw hu.size
 clear hub
 clear hi hx hu
 have px:=PX.out.cell 0
 simp at px
 go_wp2_with fail
 clear px
 refine (is_any [123] _ b ts A c (k) fn lp HP.out).mono ?_
 rintro e i6 (⟨hi,hk,rfl,hx,hu⟩ | ⟨hi,rfl,hx,hu⟩)
 ·replace HR:=hid (HR.out.trans (Pars.alt_some hi))
  have hub:=UpdB.of_upd hu hBw
  replace PX:=bg PX hu
  replace RB:=bg RB hu
  replace HP:=hid (HP.out.upd hx hu (by omega))
  replace HU:=hid (HU.out.trans hub)
  replace hBw:=Nat.le_trans hBw hu.size
  clear hub
  clear hi hx hu
  have hleA:=HP.out.kle
  go_upto_region 26 with (refine wpList_store_box rfl 24 (.tmp 5) (.tmp 74) rfl i6.heap.size #[.int .i64 7,.int .i64 0,.string ⟨#[]⟩,.slice none 0 0] rfl rfl 24 _ (Box.new i6 _ _) info_nod rfl (nc_one _ _ _ rfl) ?_;intro wl hx hv hz;have HZO:=hid hz;clear hz)
  have hb:Below i6.heap.size i6 wl:=((Below.refl _ i6).alloc (Nat.le_refl _) _).trans (hv.own (Nat.le_refl _) (by simp))
  have OB:Hid (Box wl i6.heap.size 24 (nc 7 0 [] (.slice none 0 0))):=hid hx
  have hoB:B≤i6.heap.size:=hBw
  replace PX:=bl PX hb
  replace RB:=bl RB hb
  replace HP:=hid (HP.out.below hb)
  replace HU:=hid (HU.out.trans (UpdB.of_below hb hBw))
  replace hBw:=Nat.le_trans hBw hb.size
  have KOF:=hid (KO.nil wl B i6.heap.size)
  clear hx hv hb HZO
  obtain⟨oa,hoa⟩:∃oa,i6.heap.size=oa:=⟨_,rfl⟩
  rw[hoa] at OB KOF hoB ⊢
  clear hoa
  (try simp only[Act.put])
  have px:=PX.out.cell 0
  simp at px
  go_wp2_with fail
  clear px
  refine (some_any [125] .pair rfl 136 #[.pointer (some ⟨pb,0,none⟩),.pointer (some ⟨oa,0,none⟩)] eg_r n B b oa pb ts A c fn lp 7 0 [] (fun q hq=>one_pair (fun r hr=>hall r (by omega)) B b oa pb ts A c fn lp 7 0 [] hbB hpB hpb hoB HA.out) hbB hpB hpb hoB HA.out _ (k+1) _ [] (by simp) HP.out PX.out OB.out KOF.out hBw (by omega)).mono ?_
  rintro e wm (⟨ll,k1,kvs,hr,hk1,hkl1,hll,rfl,hox,hko,hx,hu⟩ | ⟨hr,rfl,hu⟩)
  rotate_left
  ·exact⟨rfl,.inr ⟨HR.out.trans (Pars.and_no (some_no hr)),rfl,HW.out.updB (HU.out.trans hu) hwB⟩⟩
  obtain⟨ys,hy,rfl⟩:=some_yes hr
  replace HR:=hid (HR.out.trans (Pars.and_some hy))
  replace HP:=hid (HP.out.updB hx hu hkl1 HA.out)
  replace PX:=hid (PX.out.updB hu hpB hpb)
  replace RB:=hid (RB.out.updB hu hrB hrb)
  replace HU:=hid (HU.out.trans hu)
  replace hBw:=Nat.le_trans hBw hu.size
  replace OB:=hid hox
  replace KOF:=hid hko
  clear hr hy hox hko hx hu
  have hleB:=HP.out.kle
  rw[List.nil_append] at KOF
  have ob:=OB.out
  go_wp2_with (first | (refine wpList_load_row rfl 24 (.tmp 5) rfl (oa) rfl _ (nc 7 0 [] kvs) (0,0) _ ob Tryz.underlying24 rfl info_nod ?_) | (refine wpList_store_box rfl 24 (.tmp 2) (.tmp 78) rfl (pb+1) (nc 7 0 [] kvs) rfl rfl 24 _ RB.out info_nod rfl (nc_own _ _ _ KOF.out) ?_;intro wy hxz huz hzz;have HZZ:=hid hzz;clear hzz))
  refine bodyPost_ret (results_box rfl _ _ (pb+1) 24 _ _ rfl hxz Tryz.underlying24 rfl info_nod) rfl ?_
  exact .inl ⟨.mk 7 0 [] (ys.kids),k1,_,HR.out,by omega,HP.out.kle,rfl,((KOF.out.node 7 0 []).upd huz (fun g hg=>by have:=hg.1;omega)).weak (fun g hg=>by have:=hg.1;omega),Box.grown HP.out.box huz (by intro h;injection h with h;omega),Upd.fresh (HW.out.updB HU.out hwB) huz (by have:=HPB.out;omega)⟩
 replace HR:=hid (HR.out.trans (Pars.alt_no hi))
 have hub:=UpdB.of_upd hu hBw
 replace PX:=bg PX hu
 replace RB:=bg RB hu
 replace HP:=hid (HP.out.upd hx hu (by omega))
 replace HU:=hid (HU.out.trans hub)
 replace hBw:=Nat.le_trans hBw hu.size
 clear hub
 clear hi hx hu
 have px:=PX.out.cell 0
 simp at px
 go_wp2_with fail
 clear px
 refine (h.inner HP.out (by omega)).mono ?_
 rintro e wd (⟨x1,k1,cs1,hr,hk1,hk2,rfl,hn,hx,hu⟩ | ⟨hr,rfl,hu⟩)
 rotate_left
 ·exact⟨rfl,.inr ⟨HR.out.trans (hr),rfl,HW.out.updB (HU.out.trans (UpdB.of_upd hu hBw)) hwB⟩⟩
 replace HR:=hid (HR.out.trans hr)
 have HN1:Hid (NodeAt wd (fun g=>B≤g) x1 cs1):=hid (hn.weak (fun g hg=>by omega))
 have hub:=UpdB.of_upd hu hBw
 replace PX:=bg PX hu
 replace RB:=bg RB hu
 replace HP:=hid (HP.out.upd hx hu (by omega))
 replace HU:=hid (HU.out.trans hub)
 replace hBw:=Nat.le_trans hBw hu.size
 clear hub
 clear hr hn hx hu
 obtain⟨v1,hlit,hvo⟩:=NodeAt.lit HN1.out
 rw[hlit] at HN1 ⊢
 have HVO1:=hid hvo
 clear hlit hvo
 have hleX:=HP.out.kle
 go_wp2_with (refine wpList_store_box rfl 24 (.tmp 2) (.tmp 80) rfl (pb+1) #[.int .i64 x1.kind,.int .i64 x1.num,.string (byt x1.text),v1] rfl rfl 24 _ RB.out info_nod rfl (nc_one _ _ _ HVO1.out) ?_;intro wz hxz huz hzz;have HZZ:=hid hzz;clear hzz)
 refine bodyPost_ret (results_box rfl _ _ (pb+1) 24 _ _ rfl hxz Tryz.underlying24 rfl info_nod) rfl ?_
 exact .inl ⟨x1,k1,_,HR.out,by omega,HP.out.kle,rfl,(HN1.out.upd huz (fun g hg=>by have:B≤g:=hg;omega)).weak (fun g hg=>by have:B≤g:=hg;omega),Box.grown HP.out.box huz (by intro h;injection h with h;omega),Upd.fresh (HW.out.updB HU.out hwB) huz (by have:=HPB.out;omega)⟩
end Go.Proofs.YtflmjbmdmoifhaaGreatDoor
