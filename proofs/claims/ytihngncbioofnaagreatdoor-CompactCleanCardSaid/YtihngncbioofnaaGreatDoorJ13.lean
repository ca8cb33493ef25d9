import Derived.Test.YtihngncbioofnaaGreatDoorJ12
import Derived.Test.YtihngncbioofnaaGreatDoorRows
import Derived.Test.YtihngncbioofnaaGreatDoorCards
import Derived.Test.YtihngncbioofnaaGreatDoorTie
import Derived.ProofKit
import Derived.LaidMore
import Derived.OpenShut
import Derived.ShutString
import Derived.SevenTiedAt
set_option linter.unusedVariables false
set_option maxHeartbeats 128000000
namespace Go.Proofs.YtihngncbioofnaaGreatDoor
open Go Go.Sl Go.au Go.MapKept Go.RowKit
section
variable {w0 w:World}{F:List aH}{r p m K r0 E B n ps pn:Nat}{L:Seg.Log}{M:au}{D:List (Nat×List ah.aG)}{N limit seg:Int}{d:Bool}
theorem ajw (h:Sat w0 w (aY r m seg p ps pn d::F)):Calls Tryz.prog 41 #[ptr r] w (aP fun v w'=>v=ptr m∧w=w'):=by
 have e0:w.cell? ⟨r,0,none⟩=some (.pointer (some ⟨m,0,none⟩)):=h.cellAt 0 _ rfl
 have hok:=oW h
 clear h
 go_enter Tryz.func41,Tryz.ntmps41
 go_wp2_with fail
 refine hok.mono ?_
 rintro ee w1 ⟨v,rfl,rfl,rfl⟩
 go_wp2_with fail
 go_ret
 exact ⟨_,rfl,rfl,rfl⟩
set_option maxRecDepth 20000 in
theorem ai5 (hR:Seg.iC K r0 E B n L M D) (hn:n≤1000) (hK:K≤1048576) (he:Seg.vZ D) (hh:Seg.HN M N) (h0 : -1≤N) (hl:N<Seg.gI D) (h1:128≤limit) (h2:limit≤1048576) (hH:Ro w0 F Half) (h:Sat w0 w (aK m M::aY r m limit p ps pn d::F)) :
  Calls Tryz.prog 39 #[ptr r] w (aP fun v w'=>∃ (p ps pi pn:Nat) (uv:Value) (x:List (ah.Bs×Rep.dM)×Nat),v=errno 0∧(Tab.Lists (Rep.ledger (Seg.dD D)) x.1∧(∀ q∈x.1,q.1.length=32)∧x.2≤n∧x.1.length≤n) ∧
   Sat w0 w' (aY r m limit p ps pn false::cZ ps (Seg.gI D) pi uv (.slice none 0 0)::aJ pn (Tab.mapOf (Rep.puts x.1)) x.2::aJ pi (Tab.mapOf (Rep.puts x.1)) x.2::aB 45 3 uv (((Seg.kU D).map (Rep.upd x.1)).flatMap bH)::aO p m (Seg.fresh M limit)::aK m M::F)):=by
 have Hop:=uQ (fun (w':World) (R:List aH) (hr:Ro w0 R Half) (hw:Sat w0 w' (aK m M::R))=>ai9 (limit:=limit) hR hn hK he hh h0 hl h1 h2 hr hw)
 have HH:=uQ hH
 have hok:=oW (h.sb:Sat w0 w (aY r m limit p ps pn d::aK m M::F))
 clear hR hn hK he hh h0 hl h1 h2 hH
 go_enter Tryz.func39,Tryz.ntmps39
 go_wp2_with fail
 refine hok.mono ?_
 rintro ee w1 ⟨v,rfl,rfl,rfl⟩
 clear hok
 go_wp2_with fail
 have h3:=h.drew
 clear h
 refine dU [8,9,10,11,12,14,15,16] (fun w'=>w'.cell? ⟨r,0,none⟩=some (.pointer (some ⟨m,0,none⟩))∧w'.cell? ⟨r,1,none⟩=some (.int .i64 limit)) ak ?_
 have hG:World.cell? _ ⟨r,0,none⟩=some (.pointer (some ⟨m,0,none⟩))∧World.cell? _ ⟨r,1,none⟩=some (.int .i64 limit):=⟨h3.cellP aX 0 rfl,h3.cellP aX 1 rfl⟩
 refine rP 0 ?_ (y:=bf)
 refine rP 1 ?_ (y:=dS)
 refine rP 2 ?_ (y:=bU)
 refine rt 3 (h:=?_)
 refine rP 4 ?_ (y:=bf)
 refine rP 5 ?_ (y:=dS)
 refine rP 6 ?_ (y:=bU)
 refine rt 7 (h:=?_)
 clear hG
 refine uy 8 13 ay ay ak (fun K hK=>?_) (fun K hK=>?_)
 focus
  (refine iG ak ay ay ?_)
  refine (Hop.out _ _ (Ro.os HH.out) h3).mono ?_
  rintro ee w4 ⟨v,rfl,r2,p2,ps2,pi,vS,uv,x,rfl,hx,h4⟩
  have Hx:=uQ hx
  refine hK _ _ (.inl rfl) ?_
  clear hK h3 hx
  refine rP 9 ?_ (y:=bf)
  refine rP 10 ?_ (y:=(iF ay eH))
  refine rP 11 ?_ (y:=(iF ay eH))
  refine rP 12 ?_ (y:=(iF ay eH))
  refine cO 13 ay ak (fun K hK=>?_)
  refine og (o7) h4 rfl ?_
  intro b5 w5 h5
  refine hK _ _ (.inr (.inl ⟨h5.cellP (aS (aS (aS (aS (aS (aS (aS (aS aV)))))))) 0 rfl,h5.cellP (aS (aS (aS (aS (aS (aS (aS (aS aV)))))))) 1 rfl⟩)) ?_
  clear hK h4
  refine rP 14 ?_ (y:=gV)
 rotate_left
 focus
  refine og (o7) h3 rfl ?_
  intro b5 w4 h4
  refine hK _ _ (.inr (.inl ⟨h4.cellP eX 0 rfl,h4.cellP eX 1 rfl⟩)) ?_
  clear hK h3
  refine cO 8 ay ak (fun K hK=>?_)
  (refine iG ak ay ay ?_)
  refine (Hop.out _ _ (Ro.os HH.out) (h4.sb:Sat w0 w4 (aK m M::pt b5 (.cells (eU Rep.dY.zero) 63 (0,0))::aY r m limit p ps pn d::F))).mono ?_
  rintro ee w5 ⟨v,rfl,r2,p2,ps2,pi,vS,uv,x,rfl,hx,h5'⟩
  have Hx:=uQ hx
  refine hK _ _ (.inl rfl) ?_
  clear hK h4 hx
  have h5:Sat w0 w5 (pt b5 (.cells (eU Rep.dY.zero) 63 (0,0))::aY r2 m limit p2 ps2 vS false::cZ ps2 (Seg.gI D) pi uv (.slice none 0 0)::aJ vS (Tab.mapOf (Rep.puts x.1)) x.2::aJ pi (Tab.mapOf (Rep.puts x.1)) x.2::aB 45 3 uv (((Seg.kU D).map (Rep.upd x.1)).flatMap bH)::aO p2 m (Seg.fresh M limit)::aK m M::aY r m limit p ps pn d::F):=h5'.sb
  clear h5'
  refine rP 9 ?_ (y:=bf)
  refine rP 10 ?_ (y:=(iF ay eH))
  refine rP 11 ?_ (y:=(iF ay eH))
  refine rP 12 ?_ (y:=(iF ay eH))
  refine rP 14 ?_ (y:=gV)
 all_goals
  refine cO 15 ay ak (fun K hK=>?_)
  refine lI (cs':=eU Rep.dY.zero) h5 ay ay aj dB bJ ak aj ?_
  intro w6 h6
  refine hK _ _ (.inl rfl) ?_
  clear hK h5
  refine rP 16 ?_ (y:=gV)
  refine dO ak ?_
  go_wp2_with (first
   |((with_reducible refine bP ⟨?_⟩);refine iU (cs:=#[ptr m,.int .i64 limit,ptr p2,ptr ps2,ptr vS,.bool false]) h6 aj aX Tryz.underlying91 rfl ak ?_)
   |(with_reducible apply bZ))
  refine ⟨gy #[ptr m,.int .i64 limit,ptr p2,ptr ps2,ptr vS,.bool false] (h6.sb:Sat w0 w6 (aY r m limit p ps pn d::cZ ps2 (Seg.gI D) pi uv (.slice none 0 0)::aJ vS (Tab.mapOf (Rep.puts x.1)) x.2::aJ pi (Tab.mapOf (Rep.puts x.1)) x.2::aB 45 3 uv (((Seg.kU D).map (Rep.upd x.1)).flatMap bH)::aO p2 m (Seg.fresh M limit)::aK m M::F)) aj aj aj dB ak aj ?_⟩
  intro w7 h7
  clear h6
  have gu:=uQ (show Sat w0 w7 (aY r m limit p2 ps2 vS false::cZ ps2 (Seg.gI D) pi uv (.slice none 0 0)::aJ vS (Tab.mapOf (Rep.puts x.1)) x.2::aJ pi (Tab.mapOf (Rep.puts x.1)) x.2::aB 45 3 uv (((Seg.kU D).map (Rep.upd x.1)).flatMap bH)::aO p2 m (Seg.fresh M limit)::aK m M::F) from h7)
  clear h7
  go_wp2_with fail
  go_ret
  exact ⟨_,rfl,p2,ps2,pi,vS,uv,x,rfl,Hx.out,gu.out⟩
end
def TW (w0:World) (r m:Nat) (seg:Int) (D:List (Nat×List ah.aG)) (F:List aH) (w:World):Prop:=
 ∃ (ps p pn B K r0 E B0 n:Nat) (L:Seg.Log) (M:au),(Seg.HD K r0 E B0 n L M D∧B≤200)∧Sat w0 w (aY r m seg p ps pn false::aJ pn (Rep.dW (Seg.dD D)) B::aO p m L::aK m M::F)
section
variable {w0 w:World}{F:List aH}{r m K r0 E n:Nat}{D:List (Nat×List ah.aG)}{pc seg:Int}
theorem qH.mono {K' E' n':Nat} (h:qH w0 r m seg K r0 E n D F w) (h1:K≤K') (h2:E≤E') (h3:n≤n'):qH w0 r m seg K' r0 E' n' D F w:=by
 obtain ⟨ps,p,pn,pi,B,B2,B0,uv,tv,N,us,L,M,⟨hC,hb,hb2⟩,hS⟩:=h
 exact ⟨ps,p,pn,pi,B,B2,B0,uv,tv,N,us,L,M,⟨⟨hC.rp.mono h1 h2 (abm _) h3,hC.off,hC.fresh,hC.ext.mono h3 h2⟩,abV hb h3,abV hb2 h3⟩,hS⟩
theorem akn {ys zs:List Sg}{P:aI.Plan} (hS:wL P ys zs) (hP:P.aF=aI.fF D){L:Seg.Log}{M:au}{B0:Nat} (hR:Seg.iC K r0 E B0 n L M D):∀ y∈ys,∀ q∈y.2.1,q.1.e.data.length≤1099511627:=fun y hy q hq=>by
 have h1:(y.1,jL y)∈aI.fF D:=by rw [← hP,hS.aF];exact abA.2 ⟨y,hy,rfl⟩
 obtain ⟨d,hd,e⟩:=abA.1 h1
 have h2:q.1∈ah.bT d.2 8:=by
  have:jL y=ah.bT d.2 8:=(acX Prod.snd e).symm
  rw [← this]
  exact abA.2 ⟨q,hq,rfl⟩
 have h3:=hR.thin q.1.e (by
  rw [← Seg.sN]
  exact abA.2 ⟨_,aI.ND hd h2,rfl⟩)
 omega
set_option maxRecDepth 20000 in
theorem aeu (hpc:0≤pc∧pc≤100) (h1:128≤seg) (h2:seg≤1048576) (hn2:n≤200) (hn:2 * n+E<470) (hK:K≤500000) (hH:Ro w0 F Half) (h:qH w0 r m seg K r0 E n D F w) :
  Calls Tryz.prog 10 #[ptr r,.int .i64 pc] w (aP fun v w'=>
   (∃ (gv:Value) (D1:List (Nat×List ah.aG)),v = .tuple #[gv,errno 0]∧(Rep.kH (Seg.iD D1)=Rep.kH (Seg.iD D)∧aI.Rnd pc D D1)∧qH w0 r m seg (K+5 * n+700) r0 (E+2) (2 * n+1) D1 F w') ∨
   (v = .tuple #[.slice none 0 0,errno 11]∧r0<(2 * n+1) * 400+E * (20+28 * n)∧TW w0 r m seg D F w')):=by
 obtain ⟨ps,p,pn,pi,B,B2,B0,uv,tv,N,us,L,M,⟨hC,hb,hb2⟩,hS⟩:=h
 have hpl:=Vb hpc hC.rp oQ hC.st.uses (by omega:B2≤13000000) (Ro.os hH) (hS.sb:Sat w0 w (aY r m seg p ps pn false::cZ ps N pi uv tv::aJ pi (Rep.dW (Seg.dD D)) B2::aB 45 3 uv (us.flatMap bH)::aO p m L::aK m M::aJ pn (Rep.dW (Seg.dD D)) B::F))
 have HC:=uQ hC;have wF:=uQ hpc;have Hn:=uQ hn;have qj:=uQ hn2;have HK:=uQ hK;have HH:=uQ hH;have Hl:=uQ (And.intro h1 h2);have Hb:=uQ hb;have Hb2:=uQ hb2
 have HS:=uQ hS
 clear hC hpc hn hn2 hK hH h1 h2 hb hb2 hS
 go_enter Tryz.func10,Tryz.ntmps10
 go_wp2_with fail
 refine hpl.mono ?_
 rintro ee w1 ⟨v,rfl,b,kp,ip,gb,Bk,lv,mm,bg,ys,zs,rfl,hP,NU,h1⟩
 clear hpl
 generalize WQ:qw N (Rep.dW (Seg.dD D)) D=P at *
 have Aw:=uQ (show P=aI.jS N D from WQ.symm)
 have NT:P.aF=aI.fF D:=by rw [Aw.out];rfl
 clear WQ
 obtain ⟨gs,hgs⟩:∃ gs,gs=aI.chosen P pc:=⟨_,rfl⟩
 rw [← hgs]at h1
 have Lm:=uQ hgs
 obtain ⟨G,hG⟩:∃ G,G=aI.jH gs (aI.fF D):=⟨_,rfl⟩
 have hgo:=UU NU (h1.sb:Sat w0 w1 (eF gb gs::dL b N lv kp ip gb::aB 146 3 lv (ys.flatMap dX)::dF kp mm Bk::dK bg::aJ ip (Rep.dW (Seg.dD D)) B2::eG zs::aY r m seg p ps pn false::cZ ps N pi uv tv::aJ pi (Rep.dW (Seg.dD D)) B2::aB 45 3 uv (us.flatMap bH)::aO p m L::aK m M::aJ pn (Rep.dW (Seg.dD D)) B::F))
 rw [NT,← hG]at hgo
 have HG:=uQ hG;have KX:=uQ NT;have HP:=uQ hP;have Gi:=uQ NU
 clear h1 hG hgs NT hP NU
 go_wp2_with fail
 refine hgo.mono ?_
 rintro ee w2 ⟨v,rfl,h2⟩
 clear hgo
 obtain ⟨va,vc,rfl⟩:=BH (Sat.rd h2)
 by_cases hg:G=[]
 focus
  have hbz:((G.length:Int)==0)=true:=by rw [hg];rfl
  have hne:aI.Rnd pc D D:=⟨⟨_,_,_,_,_,_,_,HC.out.rp⟩,.inl ⟨rfl,by
   rw [← HC.out.st.last,← Aw.out,← Lm.out,← HG.out]
   exact hg⟩⟩
  have ql:=uQ hne
  have bI:=uQ (show qH w0 r m seg K r0 E n D F w2 from ⟨ps,p,pn,pi,B,B2,B0,uv,tv,N,us,L,M,⟨HC.out,Hb.out,Hb2.out⟩,h2.sb⟩)
  clear h2 hne hg HS HG KX HP Gi Lm Aw
  go_wp2_with fail
  go_ret2
  exact ⟨_,rfl,.inl ⟨_,D,rfl,⟨rfl,ql.out⟩,bI.out.mono oQ oQ oQ⟩⟩
 have hbz:((G.length:Int)==0)=false:=by
  rw [ab4]
  have:=alA.2 hg
  omega
 have Hg:=uQ hg
 have Ey:=Fq (h2.sb:Sat w0 w2 (aY r m seg p ps pn false::F))
 clear hg
 go_wp2_with fail
 refine Ey.mono ?_
 rintro ee w3 ⟨v,rfl,rfl,rfl⟩
 clear Ey hbz
 obtain ⟨xs,hxs⟩:∃ xs,xs=aI.copyS P gs P.aF:=⟨_,rfl⟩
 have hxc:xs=(aI.copy P gs (Seg.dD D)).map (·.2.e):=by rw [hxs,KX.out,aI.U7]
 have hxl:xs.length≤n:=by rw [hxc];exact Seg.U8 HC.out.rp
 have lK:=HC.out.ran (P:=P) (gs:=gs) (xs:=xs) (fun k=>by rw [Aw.out];rfl) (by rw [Aw.out,← aI.Qj];rfl) hxc (by have:=Hn.out;omega)
 have hcp:=adY Gi.out HP.out HC.out.rp.hd.keeps.log HC.out.rp.hd.keeps.calm.ok (by rw [← hxs];have:=HK.out;have:=Hn.out;omega) (akn Gi.out KX.out HC.out.rp) (Ro.os HH.out) (h2.sb:Sat w0 w2 (eF gb gs::dL b N lv kp ip gb::aB 146 3 lv (ys.flatMap dX)::dF kp mm Bk::dK bg::aJ ip (Rep.dW (Seg.dD D)) B2::eG zs::aO p m L::aK m M::aB 3 1 (.slice va G.length vc) (ints G)::aY r m seg p ps pn false::aJ pn (Rep.dW (Seg.dD D)) B::F))
 rw [← hxs]at hcp
 rw [← HG.out]at lK
 have Hxc:=uQ hxc
 generalize L.copied M xs=z at *
 obtain ⟨⟨L2,M2⟩,e2⟩:=z
 dsimp only at lK hcp
 obtain ⟨⟨N2,hd2⟩,lK⟩:=lK
 have HL2:=uQ hd2.keeps.log;have sZ:=uQ hd2.keeps.calm.ok
 clear h2 hxs hxc hxl hd2 HS
 go_wp2_with fail
 refine hcp.mono ?_
 rintro ee w4 ⟨v,rfl,rfl,h4'⟩
 clear hcp
 have h4:Sat w0 w4 (aB 3 1 (.slice va G.length vc) (ints G)::aY r m seg p ps pn false::aO p m L2::aK m M2::aJ pn (Rep.dW (Seg.dD D)) B::F):=h4'.sb
 clear h4'
 rcases lK with ⟨rfl,hr0,D1,lK⟩|⟨rfl,hrr,hr0,hhd⟩
 rotate_left
 focus
  have hrb:=Yn HL2.out sZ.out (by have:=HK.out;have:=Hn.out;omega) (h4.sb:Sat w0 w4 (aO p m L2::aK m M2::aY r m seg p ps pn false::aJ pn (Rep.dW (Seg.dD D)) B::F))
  rw [hr0]at hrb
  generalize L2.rollback M2=z at *
  obtain ⟨⟨L3,M3⟩,e3⟩:=z
  dsimp only at hrb hhd
  have Hhd:=uQ hhd;have Hrr:=uQ hrr
  clear h4 hr0 hhd hrr
  go_wp2_with fail
  refine hrb.mono ?_
  rintro ee w5 ⟨v,rfl,rfl,h5⟩
  clear hrb
  have bI:=uQ (show TW w0 r m seg D F w5 from ⟨ps,p,pn,B,_,r0,E,B0,_,L3,M3,⟨Hhd.out,by have:=Hb.out;have:=qj.out;omega⟩,h5.sb⟩)
  clear h5
  go_wp2_with fail
  go_ret2
  refine ⟨_,rfl,.inr ⟨rfl,?_,bI.out⟩⟩
  have:=Hrr.out
  have:=HC.out.used
  omega
 obtain ⟨Q,hQ⟩:∃ Q,L2.removes M2 G=Q:=⟨_,rfl⟩
 rw [hQ]at hr0 lK
 have SC:=uQ hr0;have TL:=uQ lK
 have SS:=uQ (show G.length≤n by
  rw [HG.out]
  unfold aI.jH
  rw [abj]
  have h3:=agB (fun x=>gs.contains x.1) (aI.fF D)
  rw [aI.JK]at h3
  exact abV h3 HC.out.rp.hd.count)
 have h5:Sat w0 w4 (aB 3 1 (.slice va G.length vc) (ints G)::aO p m L2::aK m M2::aY r m seg p ps pn false::F):=h4.sb
 have Du:=uQ (show L2.removes M2 (G.drop 0)=Q∧L2.Ok∧M2.Ok (K+4 * n+5+0) by rw [anM];exact ⟨hQ,HL2.out,sZ.out⟩)
 clear h4 hr0 lK hQ HL2 sZ HP Gi
 go_wp2_with fail
 go_loopg [47] G.length (fun g iq wr=>∃ (i:Nat) (L3:Seg.Log) (M3:au),g=G.length - i∧i≤G.length∧iq = .int .i64 i∧(L3.removes M3 (G.drop i)=Q∧L3.Ok∧M3.Ok (K+4 * n+5+i))∧Sat w0 wr (aB 3 1 (.slice va G.length vc) (ints G)::aO p m L3::aK m M3::aY r m seg p ps pn false::F))
 case atStart=>exact ⟨0,L2,M2,rfl,acv _,rfl,Du.out,h5⟩
 case round=>
  obtain ⟨i,L3,M3,rfl,hi,rfl,hin,hS⟩:=hrel
  clear h5 Du
  by_cases hil:i<G.length
  focus
   have c1:(i:Int)<(G.length:Int):=oQ
   have hwi:IntKind.i64.wrap ((i:Int)+1)=(i:Int)+1:=abX _ (by have:=SS.out;have:=Hn.out;omega)
   obtain ⟨t,ht⟩:∃ t,G[i]?=some t:=⟨_,aad hil⟩
   obtain ⟨bk,off,cc,e,hcell⟩:=vH (Sat.rd hS) ht
   cases e
   have hdp:G.drop i=t::G.drop (i+1):=by
    obtain ⟨h2,h3⟩:=abl.1 ht
    rw [alJ h2,h3]
   obtain ⟨i1,i2,i3⟩:=hin
   rw [hdp]at i1
   have hun:L3.removes M3 (t::G.drop (i+1))=if (L3.remove M3 t).2=0 then (L3.remove M3 t).1.1.removes (L3.remove M3 t).1.2 (G.drop (i+1)) else L3.remove M3 t:=rfl
   rw [hun]at i1
   have hz:(L3.remove M3 t).2=0:=by
    apply amB
    intro q
    rw [abk q]at i1
    exact q (by rw [i1];exact SC.out)
   rw [abN hz]at i1
   have hrm:=OV i2 i3 (by have:=HK.out;have:=Hn.out;have:=SS.out;omega) t (hS.sb:Sat w0 wr (aO p m L3::aK m M3::aB 3 1 (.slice (some ⟨bk,off,none⟩) G.length vc) (ints G)::aY r m seg p ps pn false::F))
   rw [hz]at hrm
   have dA:=uQ (i2.remove M3 t);have Tz:=uQ (Seg.Jv (L:=L3) i3 t)
   generalize L3.remove M3 t=z at *
   obtain ⟨⟨L4,M4⟩,e4⟩:=z
   dsimp only at hrm i1 dA Tz
   have Hi1:=uQ i1;have jO:=uQ hil
   clear hi hil ht hdp hun hz i1 i2 i3 hS
   go_wp2_with fail
   refine hrm.mono ?_
   rintro ee w6 ⟨v,rfl,rfl,h6⟩
   clear hrm hcell
   have gu:=uQ (h6.sb:Sat w0 w6 (aB 3 1 (.slice (some ⟨bk,off,none⟩) G.length vc) (ints G)::aO p m L4::aK m M4::aY r m seg p ps pn false::F))
   clear h6
   go_wp2_with fail
   go_roundg (G.length - (i+1))
   case measure=>have:=jO.out;omega
   case rel=>exact ⟨i+1,L4,M4,rfl,acO jO.out,by first|rfl|go_num,⟨Hi1.out,dA.out,Tz.out⟩,gu.out⟩
  obtain rfl:i=G.length:=by omega
  have c1:¬ (G.length:Int)<(G.length:Int):=oQ
  rw [List.drop_length]at hin
  have hQ:Q=((L3,M3),0):=hin.1.symm
  have lK:=TL.out
  rw [hQ]at lK
  dsimp only at lK
  obtain ⟨y1,y2,y3⟩:=lK.rp.dir
  have hsy:=Yo lK.rp.hd.keeps.calm.ok (hS.sb:Sat w0 wr (aO p m L3::aK m M3::aB 3 1 (.slice va G.length vc) (ints G)::aY r m seg p ps pn false::F))
  rw [y1]at hsy
  have hhn:Seg.HN M3.dP.1 N:=fun q hq hm=>lK.hn q (by rw [← y2];exact hq) hm
  have HR:=uQ y3;have SX:=uQ hhn;have bY:=uQ lK.lt;have SN:=uQ lK.ends;have TF:=uQ lK.obj;have acA:=uQ lK.new;have HR0:=uQ lK.rp
  generalize M3.dP.1=M4 at *
  clear hS hi hil hin hQ lK TL SC y1 y2 y3 hhn
  go_wp2_with fail
  refine hsy.mono ?_
  rintro ee w6 ⟨v,rfl,rfl,h6⟩
  clear hsy
  have hN1 : -1≤N:=by
   rw [HC.out.st.last]
   unfold Seg.gI
   split <;> omega
  have hre:=ai5 HR.out (by have:=Hn.out;omega) (by have:=HK.out;have:=Hn.out;omega) SN.out SX.out hN1 bY.out Hl.out.1 Hl.out.2 (Ro.os HH.out) (h6.sb:Sat w0 w6 (aK m M4::aY r m seg p ps pn false::aB 3 1 (.slice va G.length vc) (ints G)::F))
  clear h6
  go_wp2_with fail
  refine hre.mono ?_
  rintro ee w7 ⟨v,rfl,p5,EZ,EX,EY,FT,⟨kv,bx⟩,rfl,⟨k1,k2,k3,k4⟩,h7⟩
  clear hre
  dsimp only at k1 k2 k3 k4 h7
  have Eo:=HR.out.fresh seg Hl.out.1 Hl.out.2
  have hNl:0≤Seg.gI D1∧Seg.gI D1<1048576:=by
   have:=bY.out
   have:=HR.out.hd.Yp
   have:=Hn.out
   omega
  have hho:=Eo.hd.hint k1 k2
  have hst:Seg.GN D1 (Seg.gI D1) ((Seg.kU D1).map (Rep.upd kv)) (Rep.puts kv):=⟨rfl,⟨kv,k1,k2,rfl,rfl⟩,SN.out⟩
  have BF:((Seg.kU D1).map (Rep.upd kv)).length≤2 * n+1:=by
   unfold Seg.kU
   rw [abj,abj]
   exact HR.out.hd.count
  have jc:=Rep.Zx k1
  have hpl:(Rep.puts kv).length≤2 * n+1:=abV (by unfold Rep.puts;rw [abj];exact agB _ _) k4
  have zy:Tab.Lists (Tab.mapOf (Rep.puts kv)) (Rep.puts kv):=Tab.O1 (Rep.Fa k1.rise)
  have yJ:=uQ (aC.lX.idx hho Eo.hd.keeps.log (by have:=Hn.out;omega))
  have yK:=uQ (aC.lX.uses hho Eo.hd.keeps.log (by have:=Hn.out;omega))
  have iI:=uQ hho.key
  have nC:=uQ hst;have wJ:=uQ BF;have LG:=uQ jc;have Hpl:=uQ hpl;have Lr:=uQ zy;have Az:=uQ Eo;have uI:=uQ hNl;have Gj:=uQ k3
  have DI:=uQ (show (Seg.fresh M4 seg).on=false∧(Seg.fresh M4 seg).fresh=0 from ⟨rfl,rfl⟩)
  clear hho hst BF jc hpl zy Eo hNl k1 k2 k3 k4 HR hN1
  generalize Seg.fresh M4 seg=L5 at *
  generalize (Seg.kU D1).map (Rep.upd kv)=yA at *
  generalize Rep.puts kv=pl at *
  obtain ⟨N5,NS⟩:∃ N5,N5=Seg.gI D1:=⟨_,rfl⟩
  rw [← NS]at h7
  have wo:=uQ NS
  clear NS
  have hmd:=ajw h7
  go_wp2_with fail
  refine hmd.mono ?_
  rintro ee w8 ⟨v,rfl,rfl,rfl⟩
  clear hmd
  have hse:=Qq (by have:=Gj.out;have:=Hn.out;omega:bx≤14000000) (by have:=wJ.out;have:=Hn.out;omega) (h7.sb:Sat w0 w7 (aY r m seg p5 EZ EY false::cZ EZ N5 EX FT (.slice none 0 0)::aJ EX (Tab.mapOf pl) bx::aB 45 3 FT (yA.flatMap bH)::aJ EY (Tab.mapOf pl) bx::aO p5 m L5::aK m M4::aB 3 1 (.slice va G.length vc) (ints G)::F))
  clear h7
  go_wp2_with fail
  refine hse.mono ?_
  rintro ee w9 ⟨v,rfl,q,qi,vv,rfl,h9⟩
  clear hse
  obtain ⟨bi,hbi⟩:∃ bi,bi=dH.book Xx.sum dH.zG true (pl.map Rep.lg):=⟨_,rfl⟩
  obtain ⟨bu,hbu⟩:∃ bu,bu=dH.book Xx.sum dH.zH false (yA.map Rep.lC):=⟨_,rfl⟩
  have hB:bi.length+bu.length≤40+56 * (2 * n+1):=by
   rw [hbi,hbu,dH.H7 (k:=3) rfl yJ.out.row,dH.H7 (k:=3) rfl yK.out.row,abj,abj,show dH.qy true 3=44 from rfl,show dH.qy false 3=12 from rfl]
   have:=Hpl.out;have:=wJ.out;omega
  obtain ⟨s1,s2,s3,s4⟩:=Az.out.save (by have:=Hn.out;omega) (SX.out.mono (Int.le_of_lt bY.out)) uI.out.1 uI.out.2 bi bu
  rw [← wo.out]at s1 s2 s3 s4
  have hsv:=XA Az.out.hd.keeps.calm.ok (by have:=HK.out;have:=Hn.out;omega) (by rw [wo.out];exact uI.out.1) (by rw [wo.out];exact uI.out.2) pl Lr.out (by have:=Gj.out;have:=Hn.out;omega) iI.out yA yJ.out yK.out bi bu hbi hbu s4
   (h9.sb:Sat w0 w9 (cZ q N5 qi vv (.slice none 0 0)::aJ qi (Tab.mapOf pl) bx::aB 45 3 vv (yA.flatMap bH)::aK m M4::aY r m seg p5 EZ EY false::cZ EZ N5 EX FT (.slice none 0 0)::aJ EX (Tab.mapOf pl) bx::aB 45 3 FT (yA.flatMap bH)::aJ EY (Tab.mapOf pl) bx::aO p5 m L5::F))
  have s5:=aC.JF (n:=N5) (b1:=bi) (b2:=bu) Az.out.hd.keeps.calm Az.out.tmp (by have:=Az.out.hd.names;have:=Hn.out;omega) (by rw [wo.out];exact uI.out.1) (by rw [wo.out];exact uI.out.2)
  rw [← wo.out]at uI
  have hu4:=Az.out.hd.used
  generalize aC.save M4 N5 bi bu=z at *
  obtain ⟨M5,e5⟩:=z
  dsimp only at hsv s1 s2 s3
  have Xf:bi.length+bu.length+M4.used≤r0→Seg.HF M5 N5 pl yA:=fun hrm=>by
   have hz:=s5.room oQ
   have hd:=s5.done.resolve_right (by simp only at hz ⊢;omega)
   refine ⟨by rw [← hbi];exact hd.2.1,by rw [← hbu];exact hd.2.2,fun p hp hnm=>?_⟩
   have:=s5.gone hz p hp
   unfold aC.other at this
   rw [hnm]at this
   simpa using this
  have HCD:=uQ (show Seg.CD (K+5 * n+700) r0 (E+2) (B0+bi.length+bu.length) (2 * n+1) L5 M5 D1 N5 yA from ⟨s1.mono oQ (abm _) (abm _) (abm _),DI.out.1,DI.out.2,by
   have h3:=HC.out.used
   have h4:E * (20+28 * n)≤E * (20+28 * (2 * n+1)):=Nat.mul_le_mul_left _ oQ
   have h5:(E+2) * (20+28 * (2 * n+1))=E * (20+28 * (2 * n+1))+2 * (20+28 * (2 * n+1)):=amm ..
   refine ⟨by omega,s3,uI.out.2,pl,by rw [wo.out];exact nC.out,fun a1 a2 a3=>⟨fun e=>?_,fun _=>Xf ?_⟩⟩
   ·have h6:=uI.out.1
    rw [wo.out,e]at h6
    exact absurd h6 aN
   ·have h6:(E+2) * (20+28 * (2 * n+1))≤130 * (20+28 * 200):=amP a3 oQ
    omega⟩)
  clear s5 hu4 Xf
  have gB:=uQ (show aI.Rnd pc D D1 from ⟨⟨_,_,_,_,_,_,_,HC.out.rp⟩,.inr (by
   rw [← HC.out.st.last,← Aw.out,← Lm.out,← Hxc.out]
   refine ⟨fun e=>Hg.out ?_,acA.out⟩
   rw [HG.out,e]
   unfold aI.jH
   simp)⟩)
  clear h9 s1 s3 s4 hB hbi hbu
  go_wp2_with fail
  refine hsv.mono ?_
  rintro ee w10 ⟨v,rfl,rfl,h10⟩
  clear hsv
  have bI:=uQ (show qH w0 r m seg (K+5 * n+700) r0 (E+2) (2 * n+1) D1 F w10 from ⟨EZ,p5,EY,EX,bx,bx,_,FT,_,N5,yA,L5,M5,⟨HCD.out,Gj.out,Gj.out⟩,by
   rw [LG.out]at h10
   exact h10.sb⟩)
  clear h10
  rcases s2 with rfl|rfl
  ·go_wp2_with fail
   go_ret2
   exact ⟨_,rfl,.inl ⟨_,D1,rfl,⟨TF.out,gB.out⟩,bI.out⟩⟩
  ·go_wp2_with fail
   go_ret2
   exact ⟨_,rfl,.inl ⟨_,D1,rfl,⟨TF.out,gB.out⟩,bI.out⟩⟩
end
end Go.Proofs.YtihngncbioofnaaGreatDoor
namespace Go.aI
open Go.ah (Bs bV aG bT encs eY)
open Go.Seg (aU dD iD aW gI)
open Go.Rep
section
variable {P P1:Plan}{pc:Int}{gs:List Int}{R S:List Row}{a c r y:Row}{k:Bs}{s:Int}
theorem UZ:∀ (n:Nat) (gs:List Int),EN P gs<n→nextL P (choose P pc n gs) pc P.aF=[]
 |0,gs,h=>absurd h (Nat.not_lt_zero _)
 |n+1,gs,h=>by
  by_cases hn:nextL P gs pc P.aF=[]
  ·rw [DZ hn];exact hn
  ·rw [D5 hn]
   exact UZ n _ (by have:=Ya hn;omega)
theorem ad5:nextL P (chosen P pc) pc P.aF=[]:=UZ _ _ (by have:=left_le (P:=P) (gs:=[]);omega)
theorem YM (h:nextL P gs pc P.aF=[]){x:Int×List bV} (hx:x∈P.aF) (hg:gs.contains x.1=false):sparse P gs pc x=false:=by
 unfold nextL at h
 rw [List.map_eq_nil_iff,anl]at h
 have:=h x hx
 rw [hg]at this
 simpa using this
theorem ad6 (h:nextL P [] pc P.aF=[]):chosen P pc=[]:=by unfold chosen;exact DZ h
structure Good (P:Plan) (R:List Row):Prop where
 idx:∀ k,P.index k=dW R k
 keys:P.keys=jR R
 uniq:∀ a∈R,∀ b∈R,iE a=iE b→a=b
 rise:R.Pairwise fun a b=>a.1≤b.1
 tag:∀ a∈R,dw a=0∨dw a=1∨dw a=2
theorem Nc (h:dw a=2):counts P gs a.1 a.2=false:=by unfold counts;exact abN h
theorem D9 (g:Good P R) (ha:a∈R) (h:dw a=0):counts P gs a.1 a.2=true↔newest R (dI a)=some a:=by
 unfold counts
 rw [abk (show ¬ a.2.e.tag=2 by rw [show a.2.e.tag=0 from h];decide),abN (show a.2.e.tag=0 from h),g.idx,show a.2.e.key=dI a from rfl]
 unfold dW
 constructor
 ·intro hc
  cases hn:newest R (dI a) with
  |none=>rw [hn]at hc;cases hc
  |some r=>
   rw [hn]at hc
   simp only [Option.bind_some]at hc
   split at hc
   ·rename_i p hp
    split at hp
    ·cases hp
     rw [g.uniq r (rZ hn).1 a ha (zO.1 hc)]
    ·cases hp
   ·cases hc
 ·intro hn
  rw [hn]
  simp only [Option.bind_some,abN h]
  exact zO.2 rfl
theorem y7 (g:Good P R) (ha:a∈R) (h:dw a=1):counts P gs a.1 a.2=true↔newest R (dI a)=some a∧∃ p∈R,dw p=0∧dI p=dI a∧p.1<a.1∧gs.contains p.1=false:=by
 unfold counts
 rw [abk (show ¬ a.2.e.tag=2 by rw [show a.2.e.tag=1 from h];decide),abk (show ¬ a.2.e.tag=0 by rw [show a.2.e.tag=1 from h];decide),show a.2.e.key=dI a from rfl,g.keys,aco,zO,List.any_eq_true]
 obtain ⟨h1,h2⟩:=I5 (k:=dI a) R fun _=>none
 have hz:∀ u,u∈(iy (fun _=>none) (dI a)).1↔False:=fun u=>⟨fun q=>(by cases q),False.elim⟩
 unfold jR
 refine and_congr ?_ ?_
 ·rw [h1]
  cases hn:newest R (dI a) with
  |none=>exact absurd ⟨by rw [h];decide,rfl⟩ (nR.1 hn a ha)
  |some r=>
   simp only [ag5,am8,Option.some.injEq]
   exact ⟨fun q=>g.uniq r (rZ hn).1 a ha q,fun q=>by rw [q];rfl⟩
 ·constructor
  ·rintro ⟨t,ht,hc⟩
   rw [h2,hz,false_or]at ht
   obtain ⟨y,hy,y0,yk,rfl⟩:=ht
   rw [aco,abZ,amV]at hc
   exact ⟨y,hy,y0,yk,hc.1,hc.2⟩
  ·rintro ⟨y,hy,y0,yk,h3,h4⟩
   refine ⟨y.1,(h2 y.1).2 (.inr ⟨y,hy,y0,yk,rfl⟩),?_⟩
   rw [aco,abZ,amV]
   exact ⟨h3,h4⟩
theorem D8 (g:Good P R) (ha:a∈R) (hc:counts P gs a.1 a.2=true):dw a≠2∧newest R (dI a)=some a:=by
 rcases g.tag a ha with h|h|h
 ·exact ⟨by rw [h];decide,(D9 g ha h).1 hc⟩
 ·exact ⟨by rw [h];decide,((y7 g ha h).1 hc).1⟩
 ·rw [Nc h]at hc;cases hc
structure vY (P P1:Plan) (gs:List Int) (R S:List Row):Prop where
 old:Good P R
 new:Good P1 (stay gs R++S)
 ents:S.map (·.2.e)=(copy P gs R).map (·.2.e)++[aW]
 gt:∀ a∈stay gs R,∀ y∈S,a.1<y.1
 dup:R.Nodup
variable (h:vY P P1 gs R S)
include h
theorem vY.copied (hy:y∈S) (h2:dw y≠2):∃ c∈R,gs.contains c.1=true∧counts P gs c.1 c.2=true∧c.2.e=y.2.e:=by
 have h1:y.2.e∈(copy P gs R).map (·.2.e)++[aW]:=by rw [← h.ents];exact abA.2 ⟨y,hy,rfl⟩
 rcases acr.1 h1 with q|q
 ·obtain ⟨c,hc,e⟩:=abA.1 q
  obtain ⟨c1,c2⟩:=ab1.1 hc
  rw [aco]at c2
  exact ⟨c,c1,c2.1,c2.2,e⟩
 ·rw [ab7]at q
  exact absurd (show y.2.e.tag=2 by rw [q];rfl) h2
theorem vY.has (hc:c∈R) (hg:gs.contains c.1=true) (hn:counts P gs c.1 c.2=true):∃ y∈S,y.2.e=c.2.e:=by
 have h1:c.2.e∈S.map (·.2.e):=by
  rw [h.ents]
  exact ahz _ (abA.2 ⟨c,ab1.2 ⟨hc,by rw [hg,hn];rfl⟩,rfl⟩)
 obtain ⟨y,hy,e⟩:=abA.1 h1
 exact ⟨y,hy,e⟩
theorem vY.fwd (ha:a∈stay gs R) (hn:newest R k=some a):newest (stay gs R++S) k=some a:=by
 obtain ⟨ha1,ha2⟩:=ab1.1 ha
 rw [ER]
 have h1:newest S k=none:=nR.2 fun y hy hh=>by
  obtain ⟨c,c1,c2,c3,c4⟩:=h.copied hy hh.1
  obtain ⟨_,c5⟩:=D8 h.old c1 c3
  rw [show dI c=k by unfold dI;rw [c4];exact hh.2,hn]at c5
  cases c5
  rw [c2]at ha2
  cases ha2
 rw [h1]
 exact ES _ hn ha2
theorem vY.bwd (ha:a∈stay gs R) (hn:newest (stay gs R++S) k=some a) (hp:∃ p∈stay gs R,dw p=0∧dI p=k):newest R k=some a:=by
 obtain ⟨ha1,ha2⟩:=ab1.1 ha
 obtain ⟨p,hp1,p0,pk⟩:=hp
 obtain ⟨hp2,hp3⟩:=ab1.1 hp1
 rw [ER]at hn
 have h1:newest S k=none:=by
  cases hs:newest S k with
  |none=>rfl
  |some y=>
   rw [hs]at hn
   cases hn
   exact absurd (h.gt a ha a (rZ hs).1) (Int.lt_irrefl _)
 rw [h1]at hn
 simp only at hn
 have hhit:=(rZ hn).2
 cases hr:newest R k with
 |none=>exact absurd hhit (nR.1 hr a ha1)
 |some r=>
  obtain ⟨r1,r2⟩:=rZ hr
  cases hg:gs.contains r.1 with
  |false=>
   have:=ES (fun r:Row => !gs.contains r.1) hr (by rw [hg];rfl)
   rw [show newest (stay gs R) k=some r from this]at hn
   exact hn
  |true=>
   exfalso
   have hc:counts P gs r.1 r.2=true:=by
    rcases h.old.tag r r1 with q|q|q
    ·refine (D9 h.old r1 q).2 ?_
     rw [r2.2];exact hr
    ·refine (y7 h.old r1 q).2 ⟨by rw [r2.2];exact hr,p,hp2,p0,by rw [pk,r2.2],?_,by simpa using hp3⟩
     have h2:=Pg h.old.rise hr p hp2 ⟨by rw [p0];decide,pk⟩
     have h3:p.1≠r.1:=fun e=>by rw [e,hg]at hp3;cases hp3
     omega
    ·exact absurd q r2.1
   obtain ⟨y,hy,e⟩:=h.has r1 hg hc
   exact nR.1 h1 y hy ⟨by unfold dw;rw [e];exact r2.1,by unfold dI;rw [e];exact r2.2⟩
theorem vY.same (ha:a∈stay gs R):counts P1 [] a.1 a.2=counts P gs a.1 a.2:=by
 obtain ⟨ha1,ha2⟩:=ab1.1 ha
 have hm:a∈stay gs R++S:=ahz _ ha
 rw [amO]
 rcases h.old.tag a ha1 with q|q|q
 ·rw [D9 h.new hm q,D9 h.old ha1 q]
  exact ⟨fun hn=>h.bwd ha hn ⟨a,ha,q,rfl⟩,h.fwd ha⟩
 ·rw [y7 h.new hm q,y7 h.old ha1 q]
  constructor
  ·rintro ⟨hn,p,hp,p0,pk,pl,_⟩
   rcases acr.1 hp with hp|hp
   ·obtain ⟨hp2,hp3⟩:=ab1.1 hp
    exact ⟨h.bwd ha hn ⟨p,hp,p0,pk⟩,p,hp2,p0,pk,pl,by simpa using hp3⟩
   ·have:=h.gt a ha p hp
    omega
  ·rintro ⟨hn,p,hp,p0,pk,pl,pg⟩
   exact ⟨h.fwd ha hn,p,ahz _ (ab1.2 ⟨hp,by rw [pg];rfl⟩),p0,pk,pl,rfl⟩
 ·rw [Nc q,Nc q]
omit h in
theorem adk {α:Type}{l:List α}{c:α} (hd:l.Nodup) (h:∀ x∈l,x=c):l.length≤1:=by
 match l,hd,h with
 |[],_,_=>exact acv _
 |[_],_,_=>exact abm _
 |x::z::l,hd,h=>
  rw [ams]at hd
  exact absurd (by rw [h x (.head _),h z (.tail _ (.head _))];exact .head _) hd.1
theorem vY.all (hy:y∈S) (h2:dw y≠2):counts P1 [] y.1 y.2=true:=by
 obtain ⟨c,c1,c2,c3,c4⟩:=h.copied hy h2
 have hm:y∈stay gs R++S:=List.mem_append_right _ hy
 have hk:dI c=dI y:=by unfold dI;rw [c4]
 have ht:dw c=dw y:=by unfold dw;rw [c4]
 obtain ⟨_,cn⟩:=D8 h.old c1 c3
 rw [hk]at cn
 have hone:(S.filter fun z=>decide (dw z≠2∧dI z=dI y)).length≤1:=by
  have e1:(S.filter fun z=>decide (dw z≠2∧dI z=dI y)).map (·.2.e)=(S.map (·.2.e)).filter fun e=>decide (e.tag≠2∧e.key=dI y):=by
   rw [List.filter_map];rfl
  rw [← abj (f:=fun r:Row=>r.2.e),e1,h.ents,amM,ain,abk (fun q=>(aiA q).1 rfl),anR,ab6,List.filter_map,abj]
  refine adk (c:=c) ((h.dup.filter _).filter _) fun z hz=>?_
  obtain ⟨z1,z2⟩:=ab1.1 hz
  obtain ⟨z3,z4⟩:=ab1.1 z1
  rw [aco]at z4
  obtain ⟨_,zn⟩:=D8 h.old z3 z4.2
  have z5:dI z=dI y:=(aiA z2:z.2.e.tag≠2∧z.2.e.key=dI y).2
  rw [z5,cn]at zn
  exact (aio zn).symm
 have hn:newest (stay gs R++S) (dI y)=some y:=by
  rw [ER]
  cases hs:newest S (dI y) with
  |none=>exact absurd ⟨h2,rfl⟩ (nR.1 hs y hy)
  |some z=>
   obtain ⟨z1,z2⟩:=rZ hs
   have xO:y∈S.filter fun z=>decide (dw z≠2∧dI z=dI y):=ab1.2 ⟨hy,acT ⟨h2,rfl⟩⟩
   have Ov:z∈S.filter fun z=>decide (dw z≠2∧dI z=dI y):=ab1.2 ⟨z1,acT z2⟩
   generalize (S.filter fun z=>decide (dw z≠2∧dI z=dI y))=l at *
   show some z=some y
   match l,hone,xO,Ov with
   |[],_,xO,_=>cases xO
   |[x],_,xO,Ov=>rw [ab7.1 xO,ab7.1 Ov]
   |_::_::l,hone,_,_=>simp at hone
 rcases h.new.tag y hm with q|q|q
 ·exact (D9 h.new hm q).2 hn
 ·obtain ⟨_,p,hp,p0,pk,pl,pg⟩:=(y7 h.old c1 (by rw [ht];exact q)).1 c3
  have hps:p∈stay gs R:=ab1.2 ⟨hp,by rw [pg];rfl⟩
  exact (y7 h.new hm q).2 ⟨hn,p,ahz _ hps,p0,by rw [pk,hk],h.gt p hps y hy,rfl⟩
 ·exact absurd q h2
omit h
theorem ahl {l:List bV} (h:∀ f∈l,f.e.tag≠2→counts P gs s f=true):ku P gs s l=pay l:=by
 induction l with
 |nil=>rfl
 |cons f l ih=>
  unfold ku pay
  rw [ih fun g hg=>h g (.tail _ hg)]
  congr 1
  by_cases ht:f.e.tag=2
  ·rw [abN ht,abk (by unfold counts;rw [abN ht];decide)]
  ·rw [abk ht,abN (h f (.head _) ht)]
theorem ahn {gs':List Int}{l:List bV} (h:∀ f∈l,counts P1 gs' s f=counts P gs s f):ku P1 gs' s l=ku P gs s l:=by
 induction l with
 |nil=>rfl
 |cons f l ih=>
  unfold ku
  rw [ih fun g hg=>h g (.tail _ hg),h f (.head _)]
end
end Go.aI
namespace Go.aI
open Go.ah (Bs bV aG bT encs eY)
open Go.Seg (aU dD iD aW gI iC)
open Go.Rep
open Go.au (au)
section
variable {P:Plan}{pc N N' s:Int}{gs:List Int}{R:List Row}{r':Row}{K r E B n K1 r1 E1 B1 n1:Nat}{L L1:Seg.Log}{M M1:au}{D D1:List (Nat×List aG)}{xs:List aG}{kv:List (Bs×dM)}{d:Nat×List aG}
theorem ZY (h:D.Pairwise fun a b=>a.1<b.1) (hg:∀ d∈D,∀ x∈d.2,eY x):(dD D).Nodup:=by
 have key:(dD D).Pairwise fun a b=>a.1<b.1∨a.1=b.1∧a.2.at_<b.2.at_:=by
  induction D with
  |nil=>exact List.Pairwise.nil
  |cons d D ih=>
   rw [adN]at h
   rw [Seg.Ci,agY]
   refine ⟨?_,ih h.2 fun e he=>hg e (.tail _ he),fun a ha b hb=>?_⟩
   ·rw [amx]
    exact (Seg.NC d.2 8 (hg d (.head _))).imp fun hfg=> .inr ⟨rfl,hfg⟩
   ·obtain ⟨f,_,rfl⟩:=abA.1 ha
    obtain ⟨e,he,h1,_⟩:=Seg.Cj hb
    have:=h.1 e he
    left
    simp only
    omega
 rw [List.nodup_iff_pairwise_ne]
 exact key.imp fun {a b} hab e=>by rw [e]at hab;omega
theorem IB (h:iC K r E B n L M D) (N:Int):Good (jS N D) (dD D):=
 ⟨fun _=>rfl,by show jR (jG (fF D))=_;rw [Qj],fun a ha b hb e=>Seg.Z8 h.hd.rise (fun d hd=>(h.hd.good d hd).1) ha hb e,Seg.Z7 h.hd.rise,fun a ha=>Seg.WB (h.hd.row ha).2.1⟩
theorem VX (h:iC K r E B n L M D) (hd:d∈D){f:bV} (hf:f∈bT d.2 8):0<f.size:=by
 obtain ⟨u,v,h8,h9,h10⟩:=Rep.zl d.2 8 hf
 rw [h10]
 exact ah.Nr ((h.hd.good d hd).1 f.e (by rw [h8];simp))
theorem Zj:∀ {l:List bV},(∀ f∈l,0<f.size)→(∃ f∈l,f.e.tag≠2)→0<pay l
 |[],_,h=>by obtain ⟨f,hf,_⟩:=h;cases hf
 |f::l,h,h2=>by
  have h0:=ug (P:=⟨0,[],fun _=>none,fun _=>none⟩) (gs:=[]) (s:=0) l
  have h1:=h f (.head _)
  unfold pay
  by_cases ht:f.e.tag=2
  ·rw [abN ht]
   obtain ⟨g,hg,hgt⟩:=h2
   rcases ab5.1 hg with rfl|hg
   ·exact absurd ht hgt
   ·have:=Zj (fun x hx=>h x (.tail _ hx)) ⟨g,hg,hgt⟩
    omega
  ·rw [abk ht];omega
theorem clean (h:iC K r E B n L M D) (h1:iC K1 r1 E1 B1 n1 L1 M1 D1) (hpc:pc≤100) (hgs:gs=chosen (jS N D) pc) (hne:gs≠[])
  (hxs:xs=(copy (jS N D) gs (dD D)).map (·.2.e)) (hnew:∃ N0 c es,D1=(D.filter fun d => !gs.contains (d.1:Int))++(N0++[(c,es++[aW])])∧iD N0++es=xs) :
  nextL (jS (gI D1) D1) [] pc (jS (gI D1) D1).aF=[]:=by
 obtain ⟨N0,c,es,hD1,hxx⟩:=hnew
 obtain ⟨F,hF⟩:∃ F,F=D.filter fun d => !gs.contains (d.1:Int):=⟨_,rfl⟩
 obtain ⟨N1,hN1⟩:∃ N1,N1=N0++[(c,es++[aW])]:=⟨_,rfl⟩
 rw [← hF,← hN1]at hD1
 have hst:stay gs (dD D)=dD F:=by rw [hF];exact Seg.aaL gs D
 have hrw:dD D1=stay gs (dD D)++dD N1:=by rw [hst,hD1,Seg.ajl]
 have hr:=h1.hd.rise
 have hgood:=h1.hd.good
 have hgd:=IB h1 (gI D1)
 rw [hrw]at hgd
 rw [hD1,agY]at hr
 have A:vY (jS N D) (jS (gI D1) D1) gs (dD D) (dD N1):=by
  refine ⟨IB h N,hgd,?_,fun a ha y hy=>?_,ZY h.hd.rise fun d hd=>(h.hd.good d hd).1⟩
  ·rw [Seg.sN,hN1,Seg.AZ,show iD [(c,es++[aW])]=es++[aW] from ab6 _,← abY,hxx,hxs]
  ·rw [hst]at ha
   obtain ⟨e,he,e1,_⟩:=Seg.Cj ha
   obtain ⟨g,hg,g1,_⟩:=Seg.Cj hy
   have:=hr.2.2 e he g hg
   omega
 have hlen:0<gs.length:=alA.2 hne
 unfold nextL
 rw [List.map_eq_nil_iff,anl]
 intro x hx
 obtain ⟨d,hd,rfl⟩:=abA.1 (show x∈fF D1 from hx)
 have hsp:sparse (jS (gI D1) D1) [] pc ((d.1:Int),bT d.2 8)=false:=by
  have hd0:=hd
  rw [hD1]at hd
  rcases acr.1 hd with hd|hd
  ·have hdF:=hd
   rw [hF]at hd
   obtain ⟨d1,d2⟩:=ab1.1 hd
   have hg:gs.contains (d.1:Int)=false:=by simpa using d2
   have hfix:=ad5 (P:=jS N D) (pc:=pc)
   rw [← hgs]at hfix
   have hs:=YM hfix (x:=((d.1:Int),bT d.2 8)) (abA.2 ⟨d,d1,rfl⟩) hg
   have hlv:=ahn (P:=jS N D) (P1:=jS (gI D1) D1) (gs:=gs) (gs':=[]) (s:=(d.1:Int)) (l:=bT d.2 8) fun f hf=>A.same (by rw [hst];exact ND hdF hf)
   unfold sparse at hs ⊢
   simp only at hs ⊢
   by_cases hp:pay (bT d.2 8)=0
   ·rw [abN hp]at hs ⊢
    rw [acT hlen,Bool.or_true,Bool.and_true]at hs
    rw [hs,Bool.false_and]
   ·rw [abk hp]at hs ⊢
    rw [hlv]
    exact hs
  ·have hlv:=ahl (P:=jS (gI D1) D1) (gs:=[]) (s:=(d.1:Int)) (l:=bT d.2 8) fun f hf ht=>A.all (ND hd hf) ht
   have hp0:=ug (P:=jS (gI D1) D1) (gs:=[]) (s:=(d.1:Int)) (bT d.2 8)
   unfold sparse
   simp only
   by_cases hp:pay (bT d.2 8)=0
   ·rw [abN hp]
    have hdl:(d.1:Int)=gI D1:=by
     rw [hN1]at hd
     rcases acr.1 hd with q|q
     ·exfalso
      obtain ⟨g1,g2⟩:=hgood d hd0
      obtain ⟨x,l,hxl⟩:=List.exists_cons_of_ne_nil g2
      have XL:x∈xs:=by
       rw [← hxx]
       exact ahz _ (aht.2 ⟨d,q,by rw [hxl];exact .head _⟩)
      rw [hxs]at XL
      obtain ⟨z,hz,rfl⟩:=abA.1 XL
      obtain ⟨z1,z2⟩:=ab1.1 hz
      rw [aco]at z2
      have hzt:=(D8 (IB h N) z1 z2.2).1
      have:=Zj (fun f hf=>VX h1 hd0 hf) ⟨⟨z.2.e,8,(ah.encode z.2.e).1.length⟩,by rw [hxl];exact .head _,hzt⟩
      omega
     ·rw [ab7.1 q,hD1,hN1,← abY,Seg.X3]
    have hz:decide ((d.1:Int)≠(jS (gI D1) D1).last)=false:=acu fun q=>q hdl
    rw [hz]
    show (decide (0<pc) && (false || decide (0<0)))=false
    rw [show decide (0<0)=false from rfl,Bool.or_self,Bool.and_false]
   ·rw [abk hp,hlv]
    refine acu fun hq=>?_
    have:pc * pay (bT d.2 8)≤100 * pay (bT d.2 8):=Int.mul_le_mul_of_nonneg_right hpc oQ
    omega
 rw [hsp,Bool.and_false]
 decide
theorem U0:∀ (n:Nat) (gs:List Int),∀ t∈gs,t∈choose P pc n gs
 |0,gs,t,h=>h
 |n+1,gs,t,h=>by
  by_cases hn:nextL P gs pc P.aF=[]
  ·rw [DZ hn];exact h
  ·rw [D5 hn]
   exact U0 n _ t (ahz _ h)
theorem ahT (h:jH (chosen P pc) P.aF=[]):nextL P [] pc P.aF=[]:=by
 apply amB
 intro hne
 obtain ⟨t,ht⟩:=List.exists_mem_of_ne_nil _ hne
 have h1:t∈chosen P pc:=by
  unfold chosen
  rw [D5 hne]
  exact U0 _ _ t (List.mem_append_right _ ht)
 obtain ⟨x,hx,rfl⟩:=abA.1 ht
 have h2:x.1∈jH (chosen P pc) P.aF:=abA.2 ⟨x,ab1.2 ⟨(ab1.1 hx).1,amU.2 h1⟩,rfl⟩
 rw [h]at h2
 cases h2
theorem Rnd.clean (h:Rnd pc D D1) (hpc:pc≤100) (h1:iC K1 r1 E1 B1 n1 L1 M1 D1):nextL (jS (gI D1) D1) [] pc (jS (gI D1) D1).aF=[]:=by
 obtain ⟨_,_,_,_,_,_,_,hw⟩:=h.was
 rcases h.did with ⟨rfl,hg⟩|⟨hg,N0,c,es,hd,hx⟩
 ·exact ahT hg
 ·exact aI.clean hw h1 hpc rfl hg rfl ⟨N0,c,es,hd,hx⟩
theorem Mc:∀ {l:List bV},(∀ f∈l,0<f.size)→ku P gs s l=pay l→∀ f∈l,f.e.tag≠2→counts P gs s f=true
 |[],_,_,f,hf,_=>by cases hf
 |g::l,h,he,f,hf,ht=>by
  have h0:=ug (P:=P) (gs:=gs) (s:=s) l
  have h1:=h g (.head _)
  have hcg:counts P gs s g=true→g.e.tag≠2:=fun hc e=>by
   unfold counts at hc
   rw [abN e]at hc
   cases hc
  unfold ku pay at he
  by_cases hg:g.e.tag=2
  ·rw [abN hg,abk fun q=>hcg q hg]at he
   rcases ab5.1 hf with rfl|hf
   ·exact absurd hg ht
   ·exact Mc (fun x hx=>h x (.tail _ hx)) oQ f hf ht
  ·rw [abk hg]at he
   by_cases hc:counts P gs s g=true
   ·rw [abN hc]at he
    rcases ab5.1 hf with rfl|hf
    ·exact hc
    ·exact Mc (fun x hx=>h x (.tail _ hx)) oQ f hf ht
   ·rw [abk hc]at he
    omega
theorem full (h:iC K r E B n L M D) (hs:nextL (jS N D) [] 100 (jS N D).aF=[]) (hd:d∈D):∀ f∈bT d.2 8,f.e.tag≠2→counts (jS N D) [] (d.1:Int) f=true:=by
 have h1:=YM hs (x:=((d.1:Int),bT d.2 8)) (abA.2 ⟨d,hd,rfl⟩) rfl
 have hle:=ug (P:=jS N D) (gs:=[]) (s:=(d.1:Int)) (bT d.2 8)
 refine Mc (fun f hf=>VX h hd hf) ?_
 unfold sparse at h1
 simp only at h1
 by_cases hp:pay (bT d.2 8)=0
 ·omega
 ·rw [abk hp]at h1
  have:=of_decide_eq_false h1
  omega
def pJ (l:List Row) (s:Int):Int:=(l.map fun r=>if r.1=s∧dw r≠2 then (r.2.size:Int) else 0).sum
theorem PG (a b:List Row) (s:Int):pJ (a++b) s=pJ a s+pJ b s:=by unfold pJ;rw [ab8,List.sum_append]
theorem PI (k s:Int):∀ l:List bV,pJ (l.map fun f=>(k,f)) s=if k=s then pay l else 0
 |[]=>by unfold pJ pay;split <;> rfl
 |f::l=>by
  have ih:=PI k s l
  have e:pJ ((f::l).map fun f=>(k,f)) s=(if k=s∧f.e.tag≠2 then (f.size:Int) else 0)+pJ (l.map fun f=>(k,f)) s:=by unfold pJ;rw [aci,aci,anv];rfl
  rw [e,ih]
  by_cases hk:k=s
  ·have ep:pay (f::l)=(if f.e.tag=2 then 0 else (f.size:Int))+pay l:=rfl
   rw [abN hk,abN hk,ep]
   by_cases ht:f.e.tag=2
   ·rw [abk (fun q=>q.2 ht),abN ht]
   ·rw [abN ⟨hk,ht⟩,abk ht]
  ·rw [abk hk,abk hk,abk (fun q=>hk q.1)];rfl
theorem Ze:∀ {D:List (Nat×List aG)},(∀ d∈D,(d.1:Int)≠s)→pJ (dD D) s=0
 |[],_=>rfl
 |d::D,h=>by rw [Seg.Ci,PG,PI,abk (h d (.head _)),Ze fun e he=>h e (.tail _ he)];rfl
theorem Zd:∀ {D:List (Nat×List aG)},D.Pairwise (fun a b=>a.1<b.1)→d∈D→pJ (dD D) (d.1:Int)=pay (bT d.2 8)
 |[],_,h=>by cases h
 |e::D,hp,h=>by
  rw [adN]at hp
  rw [Seg.Ci,PG,PI]
  rcases ab5.1 h with rfl|h
  ·rw [abN rfl,Ze fun e he=>by have:=hp.1 e he;omega];omega
  ·have:=hp.1 d h
   rw [abk oQ,Zd hp.2 h];omega
theorem aec (g:Good P R) (hd:R.Nodup){i:Nat} (hi:R[i]?=some r') (hc:counts P [] r'.1 r'.2=true):cnt R i=true:=by
 have hm:=abn hi
 obtain ⟨c1,c2⟩:=D8 g hm hc
 obtain ⟨j,hj,hnew,_,_⟩:=Pe g.tag c2
 have hij:i=j:=by
  have h1:=(abl.1 hi).1
  exact (List.getElem?_inj h1 hd).1 (hi.trans hj.symm)
 subst hij
 unfold cnt
 rw [hi]
 simp only [hnew,Bool.and_true,aco,Bool.or_eq_true,abZ,amV,adA]
 refine ⟨c1,?_⟩
 rcases g.tag r' hm with q|q|q
 ·exact .inl q
 ·right
  obtain ⟨_,p,hp,p0,pk,pl,_⟩:=(y7 g hm q).1 hc
  rw [List.any_eq_true]
  obtain ⟨m,hpm⟩:=anj hp
  have Oe:m<i:=by
   apply amB
   intro hge
   have h1:=(abl.1 hi).1
   have h2:=(abl.1 hpm).1
   rcases alK i m with q2|q2
   ·have h3:=(amL.1 g.rise) i m h1 h2 q2
    rw [(abl.1 hi).2,(abl.1 hpm).2]at h3
    omega
   ·have:m=i:=by omega
    subst this
    rw [hi]at hpm
    cases hpm
    omega
  refine ⟨p,abn (i:=m) (by rw [ac0,abN Oe];exact hpm),?_⟩
  simp only [aco,abZ]
  exact ⟨⟨p0,pk⟩,pl⟩
 ·exact absurd q c1
theorem Ym (hc:∀ (i:Nat) (r:Row),R[i]?=some r→r.1=s→dw r≠2→cnt R i=true):∀ i,i≤R.length→live R s i=pJ (R.take i) s
 |0,_=>rfl
 |i+1,hi=>by
  have ih:=Ym hc i oQ
  obtain ⟨r,hr⟩:∃ r,R[i]?=some r:=⟨_,aad oQ⟩
  have e:pJ [r] s=if r.1=s∧dw r≠2 then (r.2.size:Int) else 0:=by unfold pJ;simp
  rw [adT,hr,agX,PG,e,← ih]
  have h2:cnt R i=true→dw r≠2:=fun q=>by
   unfold cnt at q
   rw [hr]at q
   simp only [aco,amV,adA]at q
   exact q.1.1
  have el:live R s (i+1)=if cnt R i=true∧r.1=s then live R s i+r.2.size else live R s i:=by
   show (match R[i]? with
    |none=>live R s i
    |some r=>if cnt R i=true∧r.1=s then live R s i+r.2.size else live R s i)=_
   rw [hr]
  rw [el]
  by_cases h:r.1=s∧dw r≠2
  ·rw [abN ⟨hc i r hr h.1 h.2,h.1⟩,abN h]
  ·rw [abk (fun q=>h ⟨q.2,h2 q.1⟩),abk h];omega
theorem ahm (h:iC K r E B n L M D) (hs:nextL (jS N D) [] 100 (jS N D).aF=[]) (hk:Tab.Lists (ledger (dD D)) kv) (hd:d∈D):fZ (d.1:Int) kv=pay (bT d.2 8):=by
 have htk:L.aF.take D.length=L.aF:=acs (by rw [h.hd.aF,abj];exact abm _)
 have hok:=Seg.rows_ok h.hd.keeps.log M D.length
 rw [htk,h.hd.rows]at hok
 rw [← OQ hok hk,Ym (fun i r hi he ht=>?_) _ (abm _),acK,Zd h.hd.rise hd]
 have hm:=abn hi
 obtain ⟨e,he',h1,h2,_⟩:=Seg.Cj hm
 refine aec (IB h N) (ZY h.hd.rise fun d hd=>(h.hd.good d hd).1) hi ?_
 have:=full h hs he' r.2 h2 ht
 rw [← h1]at this
 exact this
def kZ:List bV→Int
 |[]=>0
 |f::l=>(if f.e.tag=2 then (f.size:Int) else 0)+kZ l
theorem U5:∀ (l:List bV) (f:bV),kZ (l++[f])=kZ l+(if f.e.tag=2 then (f.size:Int) else 0)
 |[],f=>by simp [kZ]
 |g::l,f=>by
  have:=U5 l f
  rw [acY]
  unfold kZ
  omega
theorem Zg:∀ (es:List aG) (a:Nat),pay (bT es a)+kZ (bT es a)=(encs es).length
 |[],_=>rfl
 |x::es,a=>by
  have ih:=Zg es (a+(ah.encode x).1.length)
  have e:(encs (x::es)).length=(ah.encode x).1.length+(encs es).length:=by
   show ((ah.encode x).1++encs es).length=_
   rw [aac]
  have e1:pay (bT (x::es) a)=(if x.tag=2 then 0 else ((ah.encode x).1.length:Int))+pay (bT es (a+(ah.encode x).1.length)):=rfl
  have e2:kZ (bT (x::es) a)=(if x.tag=2 then ((ah.encode x).1.length:Int) else 0)+kZ (bT es (a+(ah.encode x).1.length)):=rfl
  rw [e,e1,e2]
  split <;> omega
end
end Go.aI
namespace Go.Rep
open Go.ah (Bs)
structure rG where
 kind:Int
 key:Bs
 data:Bs
 n:Int
 m:Int
 l:List Int
def rG.cut (c:rG):rG:=⟨c.kind,c.key,c.data.take 200,c.n,c.m,c.l.take 60⟩
def Ba (l:List rG) (n:Nat):List rG:=(l.take n).map rG.cut
end Go.Rep
namespace Go.Proofs.YtihngncbioofnaaGreatDoor
open Go Go.Sl Go.au Go.MapKept Go.RowKit
structure QD where
 c:Rep.rG
 dv:Value
 lv:Value
def mF (d:QD):List Value:=(.int .i64 d.c.kind::aA d.c.key)++d.dv::[.int .i64 d.c.n,.int .i64 d.c.m,d.lv]
def gX (d:QD):Array Value:=(mF d).toArray
def kJ (ds:List QD):List Value:=ds.flatMap mF
structure AQ (w0:World) (F:List aH) (d:QD):Prop where
 key:d.c.key.length=32
 rd:Ro w0 F (bG 1 d.dv (aA d.c.data))
 cap:lH d.dv
 rl:Ro w0 F (bG 1 d.lv (ints d.c.l))
 MX:lH d.lv
theorem AQ.of_sub {w0:World}{F G:List aH}{d:QD} (h:AQ w0 F d) (hs:∀ w,Sat w0 w G→Sat w0 w F):AQ w0 G d:=
 ⟨h.key,fun w hw=>h.rd w (hs w hw),h.cap,fun w hw=>h.rl w (hs w hw),h.MX⟩
def Sm:QD:=⟨⟨0,ah.zero32,[],0,0,[]⟩,.slice none 0 0,.slice none 0 0⟩
theorem zQo:jy Tryz.prog 69=some (.agg (gX Sm)):=by kernel_rfl
theorem IZ:(Tryz.prog.info? 69).map (·.size)=some 37:=by kernel_rfl
theorem Fg (d:QD) (hk:d.c.key.length=32):(mF d).length=37:=by
 unfold mF
 rw [aac,acB,aZ,hk];rfl
theorem yc (d:QD) (hk:d.c.key.length=32):(gX d).size=37:=by unfold gX;rw [abL,Fg d hk]
theorem PZ (d:QD) (hk:d.c.key.length=32):(Value.int .i64 d.c.kind::aA d.c.key).length=33:=by rw [acB,aZ,hk]
theorem Fe (d:QD):(mF d)[0]?=some (.int .i64 d.c.kind):=rfl
theorem Fb (d:QD){j:Nat}{v:Value} (h:(aA d.c.key)[j]?=some v):(mF d)[1+j]?=some v:=by
 unfold mF
 rw [anD,acY,amX,acH (abl.1 h).1]
 exact h
theorem zU (d:QD) (hk:d.c.key.length=32) (j:Nat):(mF d)[33+j]?=(d.dv::[.int .i64 d.c.n,.int .i64 d.c.m,d.lv]:List Value)[j]?:=by
 unfold mF
 have h:=PZ d hk
 rw [acJ oQ,h,Nat.add_sub_cancel_left]
theorem Zv (l1 l2:List Value) (x y:Value){i:Nat} (hi:l1.length=i):eP (l1++x::l2).toArray i [y]=(l1++y::l2).toArray:=by
 subst hi
 apply sH
 rw [lN _ _ _ (by simp)]
 simp only [acE,acC]
 rw [List.take_left,anF,acV oQ,Nat.add_sub_cancel_left,acS,anB,anM,abY,List.singleton_append]
theorem aiO (d:QD) (hk:d.c.key.length=32) (b:ah.Bs) (dv:Value):eP (gX d) 33 [dv]=gX ⟨⟨d.c.kind,d.c.key,b,d.c.n,d.c.m,d.c.l⟩,dv,d.lv⟩:=
 Zv _ _ _ _ (PZ d hk)
theorem aiP (d:QD) (hk:d.c.key.length=32) (l:List Int) (lv:Value):eP (gX d) 36 [lv]=gX ⟨⟨d.c.kind,d.c.key,d.c.data,d.c.n,d.c.m,l⟩,d.dv,lv⟩:=by
 have e:∀ d:QD,mF d=((.int .i64 d.c.kind::aA d.c.key)++[d.dv,.int .i64 d.c.n,.int .i64 d.c.m])++d.lv::[]:=fun d=>by
  unfold mF;rw [abY];rfl
 unfold gX
 rw [e,e]
 exact Zv _ _ _ _ (by rw [aac,PZ d hk];rfl)
theorem aiR (d:QD) (hk:d.c.key.length=32):(gX d).getD 33 undef=d.dv:=by
 have:=zU d hk 0
 rw [amg]
 unfold gX
 rw [abT,this];rfl
theorem aiS (d:QD) (hk:d.c.key.length=32):(gX d).getD 36 undef=d.lv:=by
 have:=zU d hk 3
 rw [amg]
 unfold gX
 rw [abT,this];rfl
theorem Js {ds:List QD} (hk:∀ d∈ds,d.c.key.length=32){i:Nat}{d:QD} (hi:ds[i]?=some d){j:Nat}{y:Value} (hj:(mF d)[j]?=some y):(kJ ds)[i * 37+j]?=some y:=by
 induction ds generalizing i with
 |nil=>simp at hi
 |cons x ds ih=>
  have hx:=Fg x (hk x (.head _))
  unfold kJ at *
  rw [acG]
  cases i with
  |zero=>
   obtain rfl:x=d:=by simpa using hi
   rw [acH (by have:=(abl.1 hj).1;omega),Nat.zero_mul,acp]
   exact hj
  |succ i=>
   rw [acJ (by rw [hx];omega),hx,show (i+1) * 37+j - 37=i * 37+j by omega]
   exact ih (fun d hd=>hk d (.tail _ hd)) (by simpa using hi)
theorem P5 {ds:List QD} (hk:∀ d∈ds,d.c.key.length=32):(kJ ds).length=37 * ds.length:=by
 unfold kJ
 induction ds with
 |nil=>rfl
 |cons x ds ih=>rw [acG,aac,Fg x (hk x (.head _)),ih (fun d hd=>hk d (.tail _ hd)),acB];omega
theorem aiT (ds:List QD) (d:QD):kJ (ds++[d])=kJ ds++(gX d).toList:=by unfold kJ gX;rw [ac4];simp
def rH (ds:List QD):aH:=stars (ds.map fun d=>dh d.dv d.c.data)
theorem aeD (ds:List QD) (d:QD):rH (ds++[d])=star (dh d.dv d.c.data) (rH ds):=by
 unfold rH
 rw [ab8,qA,FC]
 show star (stars [dh d.dv d.c.data]) _=_
 rw [FD]
theorem Zz (d:QD){a1 a2:Option Addr}{n1 n2 c1 c2:Nat} (h1:d.dv = .slice a1 n1 c1) (h2:d.lv = .slice a2 n2 c2):(gX d).toList.all (·.oneCell')=true:=by
 unfold gX mF
 have hb:(aA d.c.key).all (·.oneCell')=true:=wW _
 rw [acE,ahv,anW,hb,h1,h2]
 rfl
section
variable {w0 w:World}{F R:List aH}{v bv dv x lv:Value}
theorem afg {ds es:List QD}{i:Nat} (h:es.map (·.c)=((ds.map (·.c)).take i).map Rep.rG.cut) (hk:∀ p∈ds,p.c.key.length=32):∀ p∈es,p.c.key.length=32:=by
 intro p hp
 have h1:p.c∈es.map (·.c):=abA.2 ⟨p,hp,rfl⟩
 rw [h,abA]at h1
 obtain ⟨x,hx,he⟩:=h1
 obtain ⟨q,hq,rfl⟩:=abA.1 (afM hx)
 rw [← he]
 exact hk q hq
set_option maxRecDepth 20000 in
theorem aff (ds:List QD) (n:Nat) (hn:n≤1048576) (hr:Ro w0 F (bG 37 lv (kJ ds))) (he:∀ d∈ds,AQ w0 F d) (h:Sat w0 w F) :
  Calls Tryz.prog 8 #[lv,.int .i64 n] w (aP fun v w'=>∃ (es:List QD) (ov:Value),v=ov∧es.map (·.c)=Rep.Ba (ds.map (·.c)) n∧(∀ d∈es,Ro w0 F (bG 1 d.lv (ints d.c.l))∧lH d.lv) ∧
   Sat w0 w' (aB 69 37 ov (kJ es)::rH es::F)):=by
 obtain ⟨la,ln,lc,rfl,hl,_⟩:=hr w h
 rw [P5 (fun p hp=>(he p hp).key)]at hl
 obtain rfl:ln=ds.length:=by omega
 have Hr:=uQ hr;have He:=uQ he;have Hn:=uQ hn
 clear hr he hl hn
 go_enter Tryz.func8,Tryz.ntmps8
 go_wp2_with fail
 go_loopg [5,6] ds.length (fun g ov iq wr=>∃ (i:Nat) (es:List QD),g=ds.length - i∧i≤ds.length∧i≤n∧iq = .int .i64 i∧es.map (·.c)=((ds.map (·.c)).take i).map Rep.rG.cut∧(∀ d∈es,Ro w0 F (bG 1 d.lv (ints d.c.l))∧lH d.lv) ∧
  Sat w0 wr (aB 69 37 ov (kJ es)::rH es::F))
 case atStart=>exact ⟨0,[],rfl,acv _,acv _,rfl,rfl,(fun d hd=>by cases hd),Sat.iL.2 (Sat.emp.2 h)⟩
 case round=>
  obtain ⟨i,es,rfl,hi,hin,rfl,hfs,hls,hS⟩:=hrel
  have kL:=uQ hfs;have Hi:=uQ hi;have aC:=uQ hin;have Lu:=uQ hls
  clear h hfs hi hin hls
  by_cases hlt:i<ds.length∧i<n
  ·obtain ⟨hl1,hl2⟩:=hlt
   have c1:(i:Int)<(ds.length:Int):=oQ
   have c2:(i:Int)<(n:Int):=oQ
   have hwi:IntKind.i64.wrap ((i:Int)+1)=(i:Int)+1:=abX _ (by have:=Hn.out;omega)
   have AB:=uQ hl1;have Hl2:=uQ hl2
   have nV:=uQ (afg kL.out (fun p hp=>(He.out p hp).key))
   clear hl1 hl2
   obtain ⟨x,hx⟩:∃ x,ds[i]?=some x:=⟨_,aad AB.out⟩
   have hxe:=He.out x (abn hx)
   have hk:∀ p∈ds,p.c.key.length=32:=fun p hp=>(He.out p hp).key
   have hcut:=uQ (show es.map (·.c)++[x.c.cut]=((ds.map (·.c)).take (i+1)).map Rep.rG.cut by
    rw [kL.out,adT,ab8,ab2,hx];rfl)
   have Xy:Ro w0 (aB 69 37 u5 (kJ es)::rH es::F) (bG 37 (.slice la ds.length lc) (kJ ds)):=Ro.os Hr.out
   have hx0:(kJ ds)[i * 37+0]?=some (.int .i64 x.c.kind):=Js hk hx rfl
   obtain ⟨bk,off,rfl,_⟩:=qx (Xy _ hS) hx0
   have HG:=uQ (show ∀ w' L,Ro w0 L (bG 37 (.slice (some ⟨bk,off,none⟩) ds.length lc) (kJ ds))→Sat w0 w' L→∀ j v,(mF x)[j]?=some v→w'.cell? ⟨bk,off+i * 37+j,none⟩=some v by
    intro w' L hL hw j v hj
    obtain ⟨MP,off',NY,hcell⟩:=qx (hL w' hw) hx0
    cases NY
    have:=hcell _ _ (Js hk hx hj)
    rw [← ank]at this
    exact this)
   obtain ⟨⟨kind,key,data,xn,xm,xl⟩,dv,lv⟩:=x
   obtain ⟨hkey,hrd,hcap,hrl,agb⟩:=hxe
   obtain ⟨da,dn,dc,rfl,hdn,hdc⟩:=hcap
   obtain ⟨rV,rX,rW,rfl,Xl,Xj⟩:=agb
   have hdl:dn=data.length:=by
    obtain ⟨a',n',c',he,hl,_⟩:=hrd _ (hS.sb)
    cases he
    rw [aZ,acP]at hl;exact hl.symm
   subst hdl
   have LP:=uQ hrd;have Hrl:=uQ hrl;have iI:=uQ (show key.length=32 from hkey)
   have TG:=uQ (Zz ⟨⟨kind,key,data,xn,xm,xl⟩,.slice da data.length dc,.slice rV rX rW⟩ rfl rfl)
   have DJ:=uQ (yc ⟨⟨kind,key,data,xn,xm,xl⟩,.slice da data.length dc,.slice rV rX rW⟩ hkey)
   clear hx hk Xy hx0 hrd hrl hkey
   generalize hd1:(⟨⟨kind,key,data,xn,xm,xl⟩,.slice da data.length dc,.slice rV rX rW⟩:QD)=d1 at HG TG DJ
   have WZ:d1.c.key.length=32:=by rw [← hd1];exact iI.out
   have WY:d1.dv = .slice da data.length dc:=by rw [← hd1]
   have W9:d1.lv = .slice rV rX rW:=by rw [← hd1]
   have Hd1:=uQ hd1;have Gm:=uQ WZ;have ab9:=uQ WY;have acd:=uQ W9
   clear hd1 WZ WY W9
   go_wp2_with (first
    |((with_reducible refine bP ⟨?_⟩);refine jk (b:=bk) (o:=off+i * 37) (mF d1) aj (HG.out _ _ (Ro.os Hr.out) hS) Tryz.underlying69 rfl (by rw [Fg _ Gm.out];exact IZ) ?_)
    |(with_reducible apply fV))
   refine ⟨fH zQo hS rfl ?_⟩
   intro q w1 hS1
   go_wp2_with (with_reducible apply bZ)
   refine ⟨gy (gX d1) hS1 (cs:=gX Sm) aj aj (DJ.out.trans (yc Sm rfl).symm) fP (by rw [DJ.out];exact IZ) TG.out ?_⟩
   intro w2 hS2
   clear hS hS1
   go_wp2_with ((with_reducible refine bP ⟨?_⟩);refine gq (b:=q) (o:=33) (v:= .slice da data.length dc) hS2 aj bF (by rw [DJ.out];decide) (by rw [aiR _ Gm.out,ab9.out]) ak ?_)
   refine (cut_c da data.length dc 200 hdn hdc _).mono ?_
   rintro ee w3 ⟨v,rfl,rfl,rfl⟩
   go_wp2_with fail
   refine (aek hS2 (data.take 200) (aiW ((Ro.os LP.out) _ hS2)) (by rw [abU];omega)).mono ?_
   rintro ee w4 ⟨v,rfl,hS4,ca,cn,cc,rfl⟩
   obtain ⟨d2,hd2⟩:∃ d2:QD,d2=⟨⟨d1.c.kind,d1.c.key,data.take 200,d1.c.n,d1.c.m,d1.c.l⟩,.slice ca cn cc,d1.lv⟩:=⟨_,rfl⟩
   have hp2:eP (gX d1) 33 [.slice ca cn cc]=gX d2:=by rw [aiO _ Gm.out (data.take 200),hd2]
   have Xa:d2.c.key.length=32:=by rw [hd2];exact Gm.out
   have Xb:d2.lv = .slice rV rX rW:=by rw [hd2];exact acd.out
   have yL:=uQ hp2;have Hd2:=uQ hd2;have Dp:=uQ Xa;have ace:=uQ Xb
   clear hp2 hd2 Xa Xb hS2
   go_wp2_with (with_reducible apply bZ)
   refine ⟨fD (b:=q) (o:=33) (v:= .slice ca cn cc) hS4 aj aj yL.out fP (by rw [DJ.out];show 33+1≤37;decide) ak aj ?_⟩
   intro w5 hS5
   clear hS4
   go_wp2_with ((with_reducible refine bP ⟨?_⟩);refine gq (b:=q) (o:=36) (v:= .slice rV rX rW) hS5 aj bF (by rw [yc _ Dp.out];decide) (by rw [aiS _ Dp.out,ace.out]) ak ?_)
   refine (ahY rV rX rW 60 Xl Xj _).mono ?_
   rintro ee w6 ⟨v,rfl,rfl,rfl⟩
   obtain ⟨d3,hd3⟩:∃ d3:QD,d3=⟨⟨d2.c.kind,d2.c.key,d2.c.data,d2.c.n,d2.c.m,xl.take 60⟩,d2.dv,.slice rV (min rX 60) rW⟩:=⟨_,rfl⟩
   have hp3:eP (gX d2) 36 [.slice rV (min rX 60) rW]=gX d3:=by rw [aiP _ Dp.out (xl.take 60),hd3]
   have Xc:d3.c.key.length=32:=by rw [hd3];exact Dp.out
   have acF:=uQ (show (gX d3).toList.all (·.oneCell')=true by rw [hd3,Hd2.out];exact Zz _ rfl rfl)
   have Hc3:=uQ (show d3.c=Rep.rG.cut ⟨kind,key,data,xn,xm,xl⟩ by rw [hd3,Hd2.out,← Hd1.out];rfl)
   have Hb3:=uQ (show dh d3.dv d3.c.data=dh (.slice ca cn cc) (data.take 200) by rw [hd3,Hd2.out])
   have Tm:=uQ (show d3.lv = .slice rV (min rX 60) rW∧d3.c.l=xl.take 60 by rw [hd3];exact ⟨rfl,rfl⟩)
   have Hp3:=uQ hp3;have Gn:=uQ Xc
   clear hp3 hd3 Xc
   have hlen:(kJ es).length≤2147483648:=by
    rw [P5 nV.out]
    have:=acX List.length kL.out
    simp only [abj,abU]at this
    have:=Hn.out;have:=aC.out;omega
   go_wp2_with (with_reducible apply bZ)
   refine ⟨fD (b:=q) (o:=36) (v:= .slice rV (min rX 60) rW) hS5 aj aj Hp3.out fP (by rw [yc _ Dp.out];exact abm 37) ak aj ?_⟩
   intro w7 hS7
   clear hS5
   go_wp2_with (first
    |((with_reducible refine bP ⟨?_⟩);refine iU (b:=q) hS7 aj bF Tryz.underlying69 rfl (by rw [yc _ Gn.out];exact IZ) ?_)
    |((with_reducible refine qJ ⟨?_⟩);refine qB (e:=69) (sz:=37) (fA:=104) ak hS7 aj (cs:=gX d3) rfl (yc _ Gn.out) bJ ?_;intro bN wN hN)
    |((with_reducible refine nG ⟨?_⟩);refine qY 69 37 104 ak hN aj aj bF bF ((yc _ Gn.out).trans aN) (abm 1) acF.out hlen (by rw [yc _ Gn.out];decide) aN rfl ?_;intro bA nA cA wA hA))
   go_roundg (ds.length - (i+1))
   case measure=>have:=AB.out;omega
   case rel=>
    refine ⟨i+1,es++[d3],rfl,acO AB.out,acO Hl2.out,by first|rfl|go_num,?_,?_,?_⟩
    ·rw [← hcut.out,ab8,aci,acZ,Hc3.out]
    ·intro d hd
     rcases acr.1 hd with hd|hd
     ·exact Lu.out d hd
     ·rw [ab7.1 hd,Tm.out.1,Tm.out.2]
      exact ⟨fun w hw=>aiX (Hrl.out w hw),⟨_,_,_,rfl,abV (Nat.min_le_left _ _) Xl,Xj⟩⟩
    ·rw [aiT,aeD,Hb3.out]
     have h10:Sat w0 wA (dh (.slice ca cn cc) (data.take 200)::rH es::aB 69 37 (.slice (some ⟨bA,0,none⟩) nA cA) (kJ es++(gX d3).toList)::F):=hA.sb
     exact (Sat.star.2 h10).aX
  ·have hfin:es.map (·.c)=Rep.Ba (ds.map (·.c)) n:=by
    rw [kL.out]
    unfold Rep.Ba
    congr 1
    have:=Hi.out;have:=aC.out
    by_cases hh:i=n
    ·rw [hh]
    ·rw [acs (by rw [abj];omega),acs (by rw [abj];omega)]
   have bI:=uQ hfin
   by_cases hl1:i<ds.length
   ·have c1:(i:Int)<(ds.length:Int):=by omega
    have c2:¬ (i:Int)<(n:Int):=oQ
    clear hfin hlt hl1
    go_wp2
    go_ret
    exact ⟨_,rfl,es,bI.out,Lu.out,hS⟩
   ·have c1:¬ (i:Int)<(ds.length:Int):=by omega
    clear hfin hlt hl1
    go_wp2
    go_ret
    exact ⟨_,rfl,es,bI.out,Lu.out,hS⟩
end
abbrev PV:=ah.Bs×ah.Bs×Value
end Go.Proofs.YtihngncbioofnaaGreatDoor
namespace Go.Seg
open Go.au
open Go.ah (Bs aG encs eY)
open Go.Rep
end Go.Seg
namespace Go.Proofs.YtihngncbioofnaaGreatDoor
open Go Go.Sl Go.au Go.MapKept Go.RowKit
section
variable {w0 w:World}{F R:List aH}{r m K r0 E n:Nat}{seg:Int}{o oc:ah.Bs→Option ah.Bs}{d:Bool}
theorem Vm:∀ (es:List QD) (i:Nat) (d:QD),es[i]?=some d→∃ G,rH es=star (dh d.dv d.c.data) G
 |[],_,_,h=>by cases h
 |x::es,0,d,h=>by
  obtain rfl:x=d:=by simpa using h
  exact ⟨_,rfl⟩
 |x::es,i+1,d,h=>by
  obtain ⟨G,hG⟩:=Vm es i d (by simpa using h)
  refine ⟨star (dh x.dv x.c.data) G,?_⟩
  show star (dh x.dv x.c.data) (rH es)=_
  rw [hG,Ae]
theorem aeC {es:List QD}{i:Nat}{d:QD} (h:es[i]?=some d):Ro w0 (rH es::R) (bG 1 d.dv (aA d.c.data)):=fun w hw=>by
 obtain ⟨G,hG⟩:=Vm es i d h
 rw [hG]at hw
 exact Sat.rd (Sat.star.1 hw)
theorem aiU {es:List QD}{v:Value} (hk:∀ d∈es,d.c.key.length=32) (h:Sat w0 w (aB 69 37 v (kJ es)::R)):∃ a c,v = .slice a es.length c:=by
 obtain ⟨a,n,c,rfl,hl,hx⟩:=Sat.rd h
 rw [P5 hk]at hl
 obtain rfl:n=es.length:=by omega
 exact ⟨a,c,rfl⟩
theorem afh {es ds:List QD}{n:Nat} (h:es.map (·.c)=Rep.Ba (ds.map (·.c)) n) (hk:∀ d∈ds,d.c.key.length=32):es.length≤n∧∀ d∈es,d.c.key.length=32∧d.c.data.length≤300:=by
 refine ⟨?_,fun d hd=>?_⟩
 ·have:=acX List.length h
  unfold Rep.Ba at this
  rw [abj,abj,abU]at this
  omega
 ·have h1:d.c∈es.map (·.c):=abA.2 ⟨d,hd,rfl⟩
  rw [h]at h1
  unfold Rep.Ba at h1
  obtain ⟨x,hx,e⟩:=abA.1 h1
  obtain ⟨y,hy,rfl⟩:=abA.1 (afM hx)
  rw [← e]
  exact ⟨hk y hy,by show (y.c.data.take 200).length≤300;rw [abU];omega⟩
end
end Go.Proofs.YtihngncbioofnaaGreatDoor
namespace Go.Seg
open Go.au
open Go.ah (Bs aG encs eY bT)
open Go.Rep
section
variable {K r E B n:Nat}{L:Log}{M:au}{C:List (List aG)}{x y:aG}
theorem zS:put C false x=C++[[x]]:=rfl
theorem Rp.Zt (h:Rp K r E B n L M C) (hn:n<400) (hE:n+E<500) (hon:L.on=false) (hk:x.key.length=32) (hd:x.data.length≤300) (h0:(ah.encode x).2=0) (hr:n * 400+B+400≤r) :
  (L.append M x).2.2=0∧(L.append M x).1.1.on=true∧(L.append M x).1.1.limit=L.limit∧Rp (K+4) r E B (n+1) (L.append M x).1.1 (L.append M x).1.2 (C++[[x]])∧∃ row,dR 0 (C++[[x]])=dR 0 C++[row]∧row.2.e=x∧iE row=(L.append M x).2.1:=by
 have hf:L.fits (ah.encode x).1.length=false:=by unfold Log.fits;rw [hon];rfl
 have hu:=h.hg.used
 have hrm:=h.hg.keeps.calm.room
 have hnm:=h.hg.names
 obtain ⟨a1,a2,a3,_⟩:=h.hg.append oQ x hk hd h0 (.inr ⟨by omega,by omega⟩)
 obtain ⟨C',b1,b2,_,row,b4,b5,b6⟩:=h.yes oQ hk hd h0 a1
 rw [hf,zS]at b2
 subst b2
 exact ⟨a1,a2,a3,b1,row,b4,b5,b6⟩
end
section
variable {K r E B n:Nat}{L:Log}{M:au}{C:List (List aG)}{x y:aG}
theorem HG.len_eq {K' r' E' B' n':Nat}{M':au}{C':List (List aG)} (h:HG K r E B n L M C) (h':HG K' r' E' B' n' L M' C'):C.length=C'.length:=h.len.symm.trans h'.len
theorem PU (h0:(ah.encode x).2=0) (hk:x.key.length=32) (ht:x.tag=0):(ah.encode x).1.length=41+x.data.length:=by
 rw [Aa h0 hk]
 unfold ah.size
 have hc:ah.check x=0:=by
  unfold ah.encode at h0
  split at h0
  ·exact h0
  ·rename_i h;exact Decidable.not_not.1 h
 rw [abk (by rw [hc];decide),abk (by rw [ht];decide)]
theorem HG.ail (h:HG K r E B n L M (C++[[x]])) (h0:(ah.encode x).2=0) (hk:x.key.length=32) (hd:x.data.length≤1) (ht:x.tag=0) (hon:L.on=true) (hlim:L.limit=200):L.fits (ah.encode aW).1.length=true:=by
 have hl:L.l.getLast?=some ((C.length:Int),8+((encs [x]).length:Int)):=by
  rw [acW,h.len,aac,acC,Nat.add_sub_cancel]
  exact h.at_ _ _ (by rw [acJ (abm _),ana];rfl)
 unfold Log.fits
 rw [hl,hon,hlim,Ec,PU h0 hk ht,aee]
 simp only [ag5,am8,anX]
 exact acT oQ
theorem aiI:put (C++[[x]]) true y=C++[[x,y]]:=by
 unfold put
 rw [abN rfl,List.dropLast_concat,List.getLastD_eq_getLast?,List.getLast?_concat]
 rfl
theorem V3 (s:List aG) (a:Nat) (k:Int):(bT s a).map (fun _=>k)=s.map fun _=>k:=by
 conv=>rhs;rw [← ah.xA s a]
 rw [afE];rfl
theorem ajk (k:Nat) (s t:List aG):(dR k [s,t]).map (·.1)=(s.map fun _=>(k:Int))++t.map fun _=>((k+1:Nat):Int):=by
 show (((bT s 8).map fun f=>((k:Int),f))++(((bT t 8).map fun f=>(((k+1:Nat):Int),f))++[])).map (fun r:Row=>r.1)=_
 rw [ab6,ab8,afE,afE]
 exact congr (acX _ (V3 s 8 k)) (V3 t 8 _)
theorem aib {C2:List (List aG)} (hf:C2.flatten=[x,y]) (hl:C2.length=1):C2=[[x,y]]:=by
 match C2,hl with
 |[s],_=>
  rw [amW,List.flatten_nil,ab6]at hf
  rw [hf]
theorem alx {C2:List (List aG)}{a b:aG}{row:Row} (hf:C2.flatten=[a,b,x,y]) (hl:C2.length=2) (hr:dR 0 C2=dR 0 [[a,b],[x]]++[row]):C2=[[a,b],[x,y]]:=by
 match C2,hl with
 |[s,t],_=>
  rw [amW,amW,List.flatten_nil,ab6]at hf
  have h1:=acX (fun l:List Row=>l.map (·.1)) hr
  simp only [ab8,ajk]at h1
  rcases s with _|⟨s0,_|⟨s1,_|⟨s2,s⟩⟩⟩
  ·simp only [acS]at hf
   rw [hf]at h1
   simp at h1
  ·simp only [acY,acS,List.cons.injEq]at hf
   rw [hf.2]at h1
   simp at h1
  ·simp only [acY,acS,List.cons.injEq]at hf
   rw [hf.1,hf.2.1,hf.2.2]
  ·simp at h1
theorem Rp.U4 (h:Rp K r E B n L M (C++[[x]])) (hn:n<400) (hE:n+E<500) (hk:x.key.length=32) (hd:x.data.length≤1) (ht:x.tag=0) (h0:(ah.encode x).2=0) (hon:L.on=true) (hlim:L.limit=200) (hr:n * 400+B+400≤r) :
  (L.append M aW).2.2=0∧(L.commit M).1.1.on=false∧(L.commit M).1.1.limit=200∧∀ {K' r' E' B' n':Nat} {M3:au} {C2:List (List aG)},HG K' r' E' B' n' (L.commit M).1.1 M3 C2→C2.length=C.length+1:=by
 have hu:=h.hg.used
 have hrm:=h.hg.keeps.calm.room
 have hnm:=h.hg.names
 obtain ⟨a1,_⟩:=h.hg.append oQ aW rfl aN aj (.inr ⟨by omega,by omega⟩)
 obtain ⟨_,b2,b3,b4⟩:=h.hg.commit oQ (.inl a1)
 rw [h.hg.ail h0 hk hd ht hon hlim,aiI]at b4
 refine ⟨a1,b2,b3.trans hlim,fun h'=>?_⟩
 rw [← b4.len_eq h',aac,acC]
end
end Go.Seg
namespace Go.aI
open Go.ah (Bs bV aG bT encs eY)
open Go.Seg (aU aW)
open Go.Rep
theorem akM {x y:aG} (hx:x.tag=0) (hy:y.tag=0) (hk:x.key=y.key) (h0:0<(ah.encode x).1.length) (h1:0<(ah.encode y).1.length) (N:Int):jH (chosen ⟨N,sO [[x,aW],[y,aW]],jR (jG (sO [[x,aW],[y,aW]])),dW (dR 0 [[x,aW],[y,aW]])⟩ 100) (sO [[x,aW],[y,aW]])=[0]:=by
 generalize hQ:jR (jG (sO [[x,aW],[y,aW]]))=Q
 have hi:dW (dR 0 [[x,aW],[y,aW]]) y.key=some ⟨1,8,((ah.encode y).1.length:Int)⟩:=by
  have e:dR 0 [[x,aW],[y,aW]]=(dR 0 [[x,aW]]++[((1:Int),⟨y,8,(ah.encode y).1.length⟩)])++[((1:Int),⟨aW,8+(ah.encode y).1.length,(ah.encode aW).1.length⟩)]:=rfl
  rw [e,Po aj,Jh (by exact hy)]
  unfold Tab.put
  exact abN rfl
 generalize dW (dR 0 [[x,aW],[y,aW]])=I at hi ⊢
 have es:sO [[x,aW],[y,aW]]=[((0:Int),[⟨x,8,(ah.encode x).1.length⟩,⟨aW,8+(ah.encode x).1.length,(ah.encode aW).1.length⟩]),((1:Int),[⟨y,8,(ah.encode y).1.length⟩,⟨aW,8+(ah.encode y).1.length,(ah.encode aW).1.length⟩])]:=rfl
 rw [es]
 generalize (ah.encode x).1.length=a at *
 generalize (ah.encode y).1.length=b at *
 generalize (ah.encode aW).1.length=c at *
 clear hQ es
 obtain ⟨P,hP⟩:∃ P,P=Plan.mk N [((0:Int),[⟨x,8,a⟩,⟨aW,8+a,c⟩]),((1:Int),[⟨y,8,b⟩,⟨aW,8+b,c⟩])] Q I:=⟨_,rfl⟩
 rw [← hP]
 have hI:P.index=I:=by rw [hP]
 have hS:P.aF=[((0:Int),[⟨x,8,a⟩,⟨aW,8+a,c⟩]),((1:Int),[⟨y,8,b⟩,⟨aW,8+b,c⟩])]:=by rw [hP]
 clear hP
 have cc:∀ (gs:List Int) (s:Int) (z:Nat),counts P gs s ⟨aW,z,c⟩=false:=fun gs s z=>by unfold counts;exact abN rfl
 have c0:∀ gs:List Int,counts P gs 0 ⟨x,8,a⟩=false:=fun gs=>by
  unfold counts
  rw [abk (by show ¬ x.tag=2;rw [hx];decide),abN (show x.tag=0 from hx)]
  show (match P.index x.key with|some p=>sG p ⟨0,((8:Nat):Int),(a:Int)⟩|none=>false)=false
  rw [hI,hk,hi]
  rfl
 have c1:∀ gs:List Int,counts P gs 1 ⟨y,8,b⟩=true:=fun gs=>by
  unfold counts
  rw [abk (by show ¬ y.tag=2;rw [hy];decide),abN (show y.tag=0 from hy)]
  show (match P.index y.key with|some p=>sG p ⟨1,((8:Nat):Int),(b:Int)⟩|none=>false)=true
  rw [hI,hi]
  show ((1:Int)==1 && ((8:Int)==((8:Nat):Int) && (b:Int)==(b:Int)))=true
  rw [beq_self_eq_true (b:Int)]
  rfl
 have p0:∀ (e:aG) (a z:Nat),e.tag=0→pay [⟨e,8,a⟩,⟨aW,z,c⟩]=(a:Int):=fun e a z he=>by
  unfold pay pay pay
  rw [abk (by show ¬ e.tag=2;rw [he];decide),abN (show aW.tag=2 from rfl)]
  show (a:Int)+0=a
  exact Int.add_zero _
 have s0:sparse P [] 100 ((0:Int),[⟨x,8,a⟩,⟨aW,8+a,c⟩])=true:=by
  unfold sparse
  simp only
  rw [p0 x a _ hx,abk oQ]
  unfold ku ku ku
  rw [c0,cc,abk aN,abk aN]
  exact acT oQ
 have s1:∀ gs:List Int,sparse P gs 100 ((1:Int),[⟨y,8,b⟩,⟨aW,8+b,c⟩])=false∨b=0:=fun gs=>by
  by_cases hb:b=0
  ·exact .inr hb
  refine .inl ?_
  unfold sparse
  simp only
  rw [p0 y b _ hy,abk oQ]
  unfold ku ku ku
  rw [c1,cc,abN rfl,abk aN]
  exact acu (by show ¬ (100 * ((b:Int)+(0+0))<100 * (b:Int));omega)
 have s1:∀ gs:List Int,sparse P gs 100 ((1:Int),[⟨y,8,b⟩,⟨aW,8+b,c⟩])=false:=fun gs=>(s1 gs).resolve_right oQ
 have n1:nextL P [] 100 P.aF=[0]:=by
  unfold nextL
  rw [hS,ani (by rw [s0];rfl),amv (by rw [s1,Bool.and_false];exact Bool.false_ne_true)]
  rfl
 have n2:nextL P [0] 100 P.aF=[]:=by
  unfold nextL
  rw [hS,amv (by simp),amv (by rw [s1,Bool.and_false];exact Bool.false_ne_true)]
  rfl
 unfold chosen
 rw [hS]at n1 n2
 rw [hS]
 show jH (choose P 100 (2+1) []) _=_
 rw [D5 (by rw [hS,n1];decide),hS,n1,acS,DZ (by rw [hS];exact n2)]
 rfl
end Go.aI
namespace Go.Proofs.YtihngncbioofnaaGreatDoor
open Go Go.Sl Go.au Go.MapKept Go.RowKit
theorem akC {K:Nat}{M:au} (h:M.Ok K) (ho:M.off=false):M.size ByteArray.empty=(0,9):=by
 have hn:bK M.now ByteArray.empty=none:=by
  cases hi:bK M.now ByteArray.empty with
  |none=>rfl
  |some i=>exact absurd rfl (h.gK.ne _ (jE hi))
 unfold au.size
 rw [ho,hn];rfl
section
variable {w0 w:World}{F:List aH}
abbrev RX (r m p ps pi pn:Nat) (uv:Value) (limit:Int) (M:au) (F:List aH):List aH:=
 aY r m limit p ps pn false::cZ ps (-1) pi uv (.slice none 0 0)::aJ pn (fun _=>none) 0::aJ pi (fun _=>none) 0::aB 45 3 uv []::aO p m ⟨limit,[],false,0⟩::aK m M::F
theorem ZR {m K r0:Nat}{M:au}{limit:Int} (h1:128≤limit) (h2:limit≤1048576) (hM:Seg.Calm K r0 M) (hK:K≤1048576) (jc:M.now=[]) (hH:Ro w0 F Half) (h:Sat w0 w (aK m M::F)) :
  Calls Tryz.prog 19 #[ptr m,.int .i64 limit] w (aP fun v w'=>∃ (r p ps pi pn:Nat) (uv:Value),v = .tuple #[ptr r,.agg (eU Rep.dY.zero),errno 0]∧Seg.Rp K r0 0 0 0 ⟨limit,[],false,0⟩ M []∧Sat w0 w' (RX r m p ps pi pn uv limit M F)):=by
 have hl:M.list=[]:=by rw [hM.quiet.list,jc];rfl
 have hfr:Seg.fresh M limit=⟨limit,[],false,0⟩:=by
  unfold Seg.fresh Seg.found
  rw [hl]
  rfl
 have ha:Seg.alive M=0:=by unfold Seg.alive;rw [akC hM.ok hM.quiet.off];rfl
 have hu:M.used=0:=by unfold au.used;rw [jc];rfl
 refine (ajf h1 h2 hM.ok hK ha (by rw [hfr];rfl) hl hH h).mono ?_
 rintro e w' ⟨v,rfl,r,p,ps,pi,pn,uv,rfl,hS⟩
 have hok:=Seg.Iw hM.ok limit h1 h2
 rw [hfr]at hS hok
 refine ⟨_,rfl,r,p,ps,pi,pn,uv,rfl,⟨⟨⟨hok,hM,fun s hs=>by cases hs⟩,rfl,fun k es hk=>(by simp at hk),fun k es hk=>(by simp at hk),fun es he=>(by cases he),abm _,by rw [hu];omega,by rw [jc];exact abm _,fun k i hk hi=>by rw [jc]at hi;cases hi⟩,by rw [jc];rfl,abm _,fun p hp=>(by rw [jc]at hp;cases hp),fun e he=>(by cases he)⟩,hS.sb⟩
end
section
theorem ads {P:Program}{ops:Array Oper}{Q:Exit→Act→World→Prop}{rest:List Oper}{a:Act}{w:World}{dst:Option Tmp}{ty t:TypeId}{pos:String}{after:Array Edge}{g:Nat×Bool}{n:Nat}{xs:Array (Nat×Operand)} (h:Stop (wpList P ops Q (⟨dst,.buildSlice ty n xs,t,pos,after,some g⟩::rest) a w)):wpList P ops Q (⟨dst,.buildSlice ty n xs,t,pos,after,some g⟩::rest) a w:=h.out
variable {w0 w:World}{F:List aH}
set_option maxRecDepth 20000 in
theorem aij (z:Int) (hH:Ro w0 F Half) (h:Sat w0 w F) :
  Calls Tryz.prog 30 #[.int .i64 z] w (aP fun v w'=>∃ (r m p ps pi pn:Nat) (uv:Value) (limit:Int) (M:au),v = .tuple #[ptr r,ptr m,.bool true]∧(128≤limit∧limit≤2000∧M.now=[])∧Seg.Rp 0 1048576 0 0 0 ⟨limit,[],false,0⟩ M []∧Sat w0 w' (RX r m p ps pi pn uv limit M F)):=by
 have hnew:=YF 1048576 aN h
 have hlim:=abq z 128 2000 aN
 have hwi:=abp z 128 2000
 generalize within z 128 2000=lim at *
 have rE:=uQ hlim;have HH:=uQ hH
 clear h hlim hH
 go_enter Tryz.func30,Tryz.ntmps30
 go_wp2_with fail
 refine hnew.mono ?_
 rintro ee w1 ⟨v,rfl,m,rfl,h1⟩
 clear hnew
 go_wp2_with fail
 refine (hwi _).mono ?_
 rintro ee w2 ⟨v,rfl,rfl,rfl⟩
 clear hwi
 have hop:=ZR (K:=0) rE.out.1 (by have:=rE.out.2;omega) (Seg.Calm.new 0 1048576 aN) (acv _) rfl HH.out h1
 clear h1
 go_wp2_with fail
 refine hop.mono ?_
 rintro ee w3 ⟨v,rfl,r,p,ps,pi,pn,uv,rfl,hR,h3⟩
 clear hop
 have HR:=uQ hR
 clear hR
 go_wp2_with (with_reducible apply fV)
 refine ⟨fH o7 h3 rfl ?_⟩
 intro b8 w7 h7
 go_wp2_with (with_reducible apply bZ)
 refine ⟨gy (eU Rep.dY.zero) h7 aj aj aj dB ak aj ?_⟩
 intro w8 h8
 have h9:=h8.drop
 clear h3 h7 h8
 have h9:Sat w0 w8 (RX r m p ps pi pn uv lim (au.new 1048576) F):=h9
 go_wp2_with fail
 go_ret3
 exact ⟨_,rfl,r,m,p,ps,pi,pn,uv,lim,_,rfl,⟨rE.out.1,rE.out.2,rfl⟩,HR.out,h9⟩
end
section
variable {w0 w:World}{F:List aH}{r m K r0 E n:Nat}{seg:Int}{o oc:ah.Bs→Option ah.Bs}{d:Bool}
set_option maxRecDepth 20000 in
theorem aeM (x:QD) (hkey:x.c.key.length=32) (hkind:x.c.kind=0) (hd:Ro w0 F (bG 1 x.dv (aA x.c.data))) (hlen:x.c.data.length≤300) (hn:n≤199) (hE:E≤200) (hK:K≤1048576) (hH:Ro w0 F Half) (h:iw w0 r m seg K r0 E n o oc d F w) :
  Calls Tryz.prog 21 #[ptr r,.agg (gX x)] w (aP fun v w'=>∃ (o' oc':ah.Bs→Option ah.Bs) (d':Bool),iw w0 r m seg (K+605) r0 (E+2) (n+1) o' oc' d' F w'):=by
 obtain ⟨LL,hS,hpush,hdrop⟩:=h.sat
 have hF:=hdrop _ hS
 obtain ⟨da,dn,dc,hdv,hdn,_⟩:=hd w hF
 rw [aZ,acP]at hdn
 subst hdn
 rw [hdv]at hd
 have Hd:=uQ hd;have Hlen:=uQ hlen
 clear hd hlen
 have iI:=uQ hkey;have Hp:=uQ hpush;have HH:=uQ hH;have Hn:=uQ hn;have HE:=uQ hE;have HK:=uQ hK
 clear h hpush hdrop hkey hH hn hE hK hF
 go_enter Tryz.func21,Tryz.ntmps21
 go_wp2_with (with_reducible apply fO)
 refine ⟨fU hS aj aj ?_⟩
 intro b3 w3 h3
 have h4:=Hp.out _ _ h3
 have e0:w3.cell? ⟨b3,0,none⟩=some (.int .i64 x.c.kind):=h3.cellP aV 0 (by unfold gX;rw [abT];exact Fe x)
 have fk:w3.rangeAt b3 1 (aA x.c.key):=fun j z hj=>h3.cellP aV (1+j) (by unfold gX;rw [abT];exact Fb x hj)
 have e33:w3.cell? ⟨b3,33,none⟩=some x.dv:=h3.cellP aV 33 (by unfold gX;rw [abT];exact zU x iI.out 0)
 clear hS h3
 rw [hdv]at e33
 rw [hkind]at e0
 go_wp2_with ((with_reducible refine bP ⟨?_⟩);refine jk (b:=b3) (o:=1) (aA x.c.key) aj fk Tryz.underlying50 rfl (by rw [aZ,iI.out];kernel_rfl) ?_)
 refine (akN (by have:=Hn.out;omega) HE.out HK.out iI.out x.c.data da dc (Ro.os Hd.out) Hlen.out (Ro.os HH.out) h4).mono ?_
 rintro ee w5 ⟨v,rfl,⟨rfl,h5⟩|⟨rfl,h5⟩⟩
 ·go_wp2_with fail
  go_end0
  exact ⟨_,rfl,_,_,_,h5.drop.mono oQ oQ oQ⟩
 ·go_wp2_with fail
  go_end0
  exact ⟨_,rfl,_,_,_,h5.drop.mono oQ oQ oQ⟩
set_option maxRecDepth 20000 in
theorem aeN (x:QD) (hkey:x.c.key.length=32) (hkind:x.c.kind=1) (hn:n≤199) (hE:E≤200) (hK:K≤1048576) (hH:Ro w0 F Half) (h:iw w0 r m seg K r0 E n o oc d F w) :
  Calls Tryz.prog 21 #[ptr r,.agg (gX x)] w (aP fun v w'=>∃ (o' oc':ah.Bs→Option ah.Bs) (d':Bool),iw w0 r m seg (K+605) r0 (E+2) (n+1) o' oc' d' F w'):=by
 obtain ⟨LL,hS,hpush,hdrop⟩:=h.sat
 have hF:=hdrop _ hS
 have iI:=uQ hkey;have Hp:=uQ hpush;have HH:=uQ hH;have Hn:=uQ hn;have HE:=uQ hE;have HK:=uQ hK
 clear h hpush hdrop hkey hH hn hE hK hF
 go_enter Tryz.func21,Tryz.ntmps21
 go_wp2_with (with_reducible apply fO)
 refine ⟨fU hS aj aj ?_⟩
 intro b3 w3 h3
 have h4:=Hp.out _ _ h3
 have e0:w3.cell? ⟨b3,0,none⟩=some (.int .i64 x.c.kind):=h3.cellP aV 0 (by unfold gX;rw [abT];exact Fe x)
 have fk:w3.rangeAt b3 1 (aA x.c.key):=fun j z hj=>h3.cellP aV (1+j) (by unfold gX;rw [abT];exact Fb x hj)
 have e33:w3.cell? ⟨b3,33,none⟩=some x.dv:=h3.cellP aV 33 (by unfold gX;rw [abT];exact zU x iI.out 0)
 clear hS h3
 rw [hkind]at e0
 go_wp2_with ((with_reducible refine bP ⟨?_⟩);refine jk (b:=b3) (o:=1) (aA x.c.key) aj fk Tryz.underlying50 rfl (by rw [aZ,iI.out];kernel_rfl) ?_)
 refine (akf (by have:=Hn.out;omega) HE.out HK.out iI.out (Ro.os HH.out) h4).mono ?_
 rintro ee w5 ⟨v,rfl,⟨rfl,h5⟩|⟨rfl|rfl,h5⟩⟩
 ·go_wp2_with fail
  go_end0
  exact ⟨_,rfl,_,_,_,h5.drop.mono oQ oQ oQ⟩
 ·go_wp2_with fail
  go_end0
  exact ⟨_,rfl,_,_,_,h5.drop.mono oQ oQ oQ⟩
 ·go_wp2_with fail
  go_end0
  exact ⟨_,rfl,_,_,_,h5.drop.mono oQ oQ oQ⟩
set_option maxRecDepth 20000 in
theorem aeO (x:QD) (hkey:x.c.key.length=32) (hkind:x.c.kind=2) (hn:n≤199) (hE:E≤200) (hK:K≤1048576) (hH:Ro w0 F Half) (h:iw w0 r m seg K r0 E n o oc d F w) :
  Calls Tryz.prog 21 #[ptr r,.agg (gX x)] w (aP fun v w'=>∃ (o' oc':ah.Bs→Option ah.Bs) (d':Bool),iw w0 r m seg (K+605) r0 (E+2) (n+1) o' oc' d' F w'):=by
 obtain ⟨LL,hS,hpush,hdrop⟩:=h.sat
 have hF:=hdrop _ hS
 have iI:=uQ hkey;have Hp:=uQ hpush;have HH:=uQ hH;have Hn:=uQ hn;have HE:=uQ hE;have HK:=uQ hK
 clear h hpush hdrop hkey hH hn hE hK hF
 go_enter Tryz.func21,Tryz.ntmps21
 go_wp2_with (with_reducible apply fO)
 refine ⟨fU hS aj aj ?_⟩
 intro b3 w3 h3
 have h4:=Hp.out _ _ h3
 have e0:w3.cell? ⟨b3,0,none⟩=some (.int .i64 x.c.kind):=h3.cellP aV 0 (by unfold gX;rw [abT];exact Fe x)
 have fk:w3.rangeAt b3 1 (aA x.c.key):=fun j z hj=>h3.cellP aV (1+j) (by unfold gX;rw [abT];exact Fb x hj)
 have e33:w3.cell? ⟨b3,33,none⟩=some x.dv:=h3.cellP aV 33 (by unfold gX;rw [abT];exact zU x iI.out 0)
 clear hS h3
 rw [hkind]at e0
 go_wp2_with fail
 refine (ake (by have:=Hn.out;omega) HE.out HK.out (Ro.os HH.out) h4).mono ?_
 rintro ee w5 ⟨v,rfl,⟨rfl,h5⟩|⟨rfl,h5⟩⟩
 ·go_wp2_with fail
  go_end0
  exact ⟨_,rfl,_,_,_,h5.drop.mono oQ oQ oQ⟩
 ·go_wp2_with fail
  go_end0
  exact ⟨_,rfl,_,_,_,h5.drop.mono oQ oQ oQ⟩
set_option maxRecDepth 20000 in
theorem aeP (x:QD) (hkey:x.c.key.length=32) (hkind:x.c.kind=3) (hn:n≤199) (hE:E≤200) (hK:K≤1048576) (hH:Ro w0 F Half) (h:iw w0 r m seg K r0 E n o oc d F w) :
  Calls Tryz.prog 21 #[ptr r,.agg (gX x)] w (aP fun v w'=>∃ (o' oc':ah.Bs→Option ah.Bs) (d':Bool),iw w0 r m seg (K+605) r0 (E+2) (n+1) o' oc' d' F w'):=by
 obtain ⟨LL,hS,hpush,hdrop⟩:=h.sat
 have hF:=hdrop _ hS
 have iI:=uQ hkey;have Hp:=uQ hpush;have HH:=uQ hH;have Hn:=uQ hn;have HE:=uQ hE;have HK:=uQ hK
 clear h hpush hdrop hkey hH hn hE hK hF
 go_enter Tryz.func21,Tryz.ntmps21
 go_wp2_with (with_reducible apply fO)
 refine ⟨fU hS aj aj ?_⟩
 intro b3 w3 h3
 have h4:=Hp.out _ _ h3
 have e0:w3.cell? ⟨b3,0,none⟩=some (.int .i64 x.c.kind):=h3.cellP aV 0 (by unfold gX;rw [abT];exact Fe x)
 have fk:w3.rangeAt b3 1 (aA x.c.key):=fun j z hj=>h3.cellP aV (1+j) (by unfold gX;rw [abT];exact Fb x hj)
 have e33:w3.cell? ⟨b3,33,none⟩=some x.dv:=h3.cellP aV 33 (by unfold gX;rw [abT];exact zU x iI.out 0)
 clear hS h3
 rw [hkind]at e0
 go_wp2_with fail
 refine (akO (by have:=Hn.out;omega) HK.out h4).mono ?_
 rintro ee w5 ⟨v,rfl,rfl,h5⟩
 go_wp2_with fail
 go_end0
 exact ⟨_,rfl,_,_,_,h5.drop.mono oQ oQ oQ⟩
set_option maxRecDepth 20000 in
theorem aeQ (x:QD) (hkey:x.c.key.length=32) (hkind:x.c.kind≠0∧x.c.kind≠1∧x.c.kind≠2∧x.c.kind≠3) (hn:n≤199) (hE:E≤200) (hK:K≤1048576) (hH:Ro w0 F Half) (h:iw w0 r m seg K r0 E n o oc d F w) :
  Calls Tryz.prog 21 #[ptr r,.agg (gX x)] w (aP fun v w'=>∃ (o' oc':ah.Bs→Option ah.Bs) (d':Bool),iw w0 r m seg (K+605) r0 (E+2) (n+1) o' oc' d' F w'):=by
 obtain ⟨LL,hS,hpush,hdrop⟩:=h.sat
 have hF:=hdrop _ hS
 have iI:=uQ hkey;have Hp:=uQ hpush;have HH:=uQ hH;have Hn:=uQ hn;have HE:=uQ hE;have HK:=uQ hK
 clear h hpush hdrop hkey hH hn hE hK hF
 go_enter Tryz.func21,Tryz.ntmps21
 go_wp2_with (with_reducible apply fO)
 refine ⟨fU hS aj aj ?_⟩
 intro b3 w3 h3
 have h4:=Hp.out _ _ h3
 have e0:w3.cell? ⟨b3,0,none⟩=some (.int .i64 x.c.kind):=h3.cellP aV 0 (by unfold gX;rw [abT];exact Fe x)
 have fk:w3.rangeAt b3 1 (aA x.c.key):=fun j z hj=>h3.cellP aV (1+j) (by unfold gX;rw [abT];exact Fb x hj)
 have e33:w3.cell? ⟨b3,33,none⟩=some x.dv:=h3.cellP aV 33 (by unfold gX;rw [abT];exact zU x iI.out 0)
 clear hS h3
 obtain ⟨k0,k1,k2,k3⟩:=hkind
 have c0:(x.c.kind==0)=false:=by rw [ab4];exact k0
 have c1:(x.c.kind==1)=false:=by rw [ab4];exact k1
 have c2:(x.c.kind==2)=false:=by rw [ab4];exact k2
 have c3:(x.c.kind==3)=false:=by rw [ab4];exact k3
 clear k0 k1 k2 k3
 go_wp2_with fail
 go_end0
 exact ⟨_,rfl,_,_,_,h4.drop.mono oQ oQ oQ⟩
theorem aeK (x:QD) (hkey:x.c.key.length=32) (hd:Ro w0 F (bG 1 x.dv (aA x.c.data))) (hlen:x.c.data.length≤300) (hn:n≤199) (hE:E≤200) (hK:K≤1048576) (hH:Ro w0 F Half) (h:iw w0 r m seg K r0 E n o oc d F w) :
  Calls Tryz.prog 21 #[ptr r,.agg (gX x)] w (aP fun v w'=>∃ (o' oc':ah.Bs→Option ah.Bs) (d':Bool),iw w0 r m seg (K+605) r0 (E+2) (n+1) o' oc' d' F w'):=by
 by_cases h0:x.c.kind=0
 ·exact aeM x hkey h0 hd hlen hn hE hK hH h
 by_cases h1:x.c.kind=1
 ·exact aeN x hkey h1 hn hE hK hH h
 by_cases h2:x.c.kind=2
 ·exact aeO x hkey h2 hn hE hK hH h
 by_cases h3:x.c.kind=3
 ·exact aeP x hkey h3 hn hE hK hH h
 ·exact aeQ x hkey ⟨h0,h1,h2,h3⟩ hn hE hK hH h
theorem RX.st {p ps pi pn:Nat}{uv:Value}{M:au} (hR:Seg.Rp K r0 0 0 0 ⟨seg,[],false,0⟩ M []) (jc:M.now=[]) (h:Sat w0 w (RX r m p ps pi pn uv seg M F)):iw w0 r m seg K r0 0 0 (fun _=>none) (fun _=>none) false F w:=
 ⟨ps,p,pn,pi,0,0,0,uv,_,-1,[],_,M,[],[],⟨hR,Seg.pY.start rfl rfl,rfl,rfl,fun _=>rfl,abm _,abm _,Seg.nX.start jc⟩,h.sb⟩
set_option maxRecDepth 20000 in
theorem aiz (z:Int) (ds:List QD){a:Option Addr}{c:Nat} (hr:Ro w0 F (bG 37 (.slice a ds.length c) (kJ ds))) (hk:∀ d∈ds,d.c.key.length=32∧d.c.data.length≤300) (hd:∀ d∈ds,Ro w0 F (bG 1 d.dv (aA d.c.data))) (hl:ds.length≤40) (hH:Ro w0 F Half) (h:Sat w0 w F) :
  Calls Tryz.prog 7 #[.int .i64 z,.slice a ds.length c] w (aP fun v w'=>∃ (r m:Nat) (lim:Int) (o:ah.Bs→Option ah.Bs),v = .tuple #[ptr r,ptr m,.bool true]∧(128≤lim∧lim≤2000)∧iw w0 r m lim 25000 1048576 82 41 o o false F w'):=by
 have hop:=aij z hH h
 have Hr:=uQ hr;have Hk:=uQ hk;have Hd:=uQ hd;have Hl:=uQ hl;have HH:=uQ hH
 clear hr hk hd hl hH h
 go_enter Tryz.func7,Tryz.ntmps7
 go_wp2_with fail
 refine hop.mono ?_
 rintro ee w1 ⟨v,rfl,r,m,p,ps,pi,pn,uv,lim,M,rfl,⟨l1,l2,l3⟩,hR,h1⟩
 clear hop
 have rE:=uQ (And.intro l1 l2)
 have h2:=RX.st hR l3 h1
 clear h1 hR l1 l2 l3
 go_wp2_with fail
 go_loopg [10] ds.length (fun g iq wr=>∃ (i:Nat) (o oc:ah.Bs→Option ah.Bs) (d:Bool),g=ds.length - i∧i≤ds.length∧iq = .int .i64 i∧iw w0 r m lim (i * 605) 1048576 (2 * i) i o oc d F wr)
 case atStart=>exact ⟨0,_,_,_,rfl,acv _,rfl,h2⟩
 case round=>
  obtain ⟨i,o,oc,d,rfl,hi,rfl,hS⟩:=hrel
  clear h2
  by_cases hlt:i<ds.length
  rotate_left
  focus
   obtain rfl:i=ds.length:=by omega
   have c1:decide ((ds.length:Int)<(ds.length:Int))=false:=acu oQ
   have c1':¬ (ds.length:Int)<(ds.length:Int):=oQ
   have hcm:=aav (by have:=Hl.out;omega) (by have:=Hl.out;omega) (by have:=Hl.out;omega) HH.out hS
   clear hS hi hlt
   go_wp2_with fail
   refine hcm.mono ?_
   rintro ee w3 ⟨v,rfl,⟨rfl,h3⟩|⟨rfl,h3,_⟩⟩
   rotate_left
   focus
    exfalso
    have:=Hl.out
    have h4:2 * ds.length * (20+28 * ds.length)≤80 * (20+28 * 40):=amP oQ oQ
    omega
   clear hcm
   have bI:=uQ (show iw w0 r m lim 25000 1048576 82 41 o o false F w3 from h3.mono (by have:=Hl.out;omega) (by have:=Hl.out;omega) (by have:=Hl.out;omega))
   clear h3
   go_wp2_with fail
   go_ret3
   exact ⟨_,rfl,r,m,lim,o,rfl,rE.out,bI.out⟩
  have c1:decide ((i:Int)<(ds.length:Int))=true:=acT oQ
  have c1':(i:Int)<(ds.length:Int):=oQ
  have hwi:IntKind.i64.wrap ((i:Int)+1)=(i:Int)+1:=abX _ (by have:=Hl.out;omega)
  obtain ⟨x,hx⟩:∃ x,ds[i]?=some x:=⟨_,aad hlt⟩
  have hxm:=abn hx
  have bY:=uQ hlt
  have Hxk:=uQ (Hk.out x hxm);have Hxd:=uQ (Hd.out x hxm)
  obtain ⟨LL,hG,hback,hdrop⟩:=hS.sat
  have hrd:=Hr.out _ (hdrop _ hG)
  have hx0:(kJ ds)[i * 37+0]?=some (.int .i64 x.c.kind):=Js (fun d hd=>(Hk.out d hd).1) hx rfl
  obtain ⟨bk,off,e,hcell⟩:=qx hrd hx0
  cases e
  have hcells:wr.rangeAt bk (off+i * 37) (mF x):=fun j y hj=>by
   have:=hcell _ _ (Js (fun d hd=>(Hk.out d hd).1) hx hj)
   rw [← ank]at this
   exact this
  clear hlt hi hx hxm hG hback hdrop hrd hx0 hcell
  go_wp2_with ((with_reducible refine bP ⟨?_⟩);refine jk (b:=bk) (o:=off+i * 37) (mF x) aj hcells Tryz.underlying69 rfl (by rw [Fg _ Hxk.out.1];exact IZ) ?_)
  refine (aeK (n:=i) (E:=2 * i) (K:=i * 605) x Hxk.out.1 Hxd.out Hxk.out.2 (by have:=Hl.out;have:=bY.out;omega) (by have:=Hl.out;have:=bY.out;omega) (by have:=Hl.out;have:=bY.out;omega) HH.out hS).mono ?_
  rintro ee w3 ⟨v,rfl,o2,Y6,d2,h3⟩
  have gu:=uQ (show iw w0 r m lim ((i+1) * 605) 1048576 (2 * (i+1)) (i+1) o2 Y6 d2 F w3 from by rw [show (i+1) * 605=i * 605+605 by omega,show 2 * (i+1)=2 * i+2 by omega];exact h3)
  clear hS hcells h3
  go_wp2_with fail
  go_roundg (ds.length - (i+1))
  case measure=>have:=bY.out;omega
  case rel=>exact ⟨i+1,o2,Y6,d2,rfl,acO bY.out,by first|rfl|go_num,gu.out⟩
end
section
variable {w0 w:World}{F:List aH}
set_option maxRecDepth 20000 in
theorem aho (hH:Ro w0 F Half) (h:Sat w0 w F):Calls Tryz.prog 17 #[] w (aP fun v w'=>v = .bool true∧Sat w0 w' F):=by
 have hnew:=YF 2000 aN h
 have HH:=uQ hH
 clear hH h
 go_enter Tryz.func17,Tryz.ntmps17
 go_wp2_with fail
 refine hnew.mono ?_
 rintro e w1 ⟨v,rfl,m,rfl,hS⟩
 clear hnew
 have hop:=ZR (K:=0) (limit:=200) aN aN (Seg.Calm.new 0 2000 aN) (acv _) rfl HH.out hS
 clear hS
 go_wp2_with fail
 refine hop.mono ?_
 rintro ee w2 ⟨v,rfl,r,p,ps,pi,pn,uv,rfl,hR,h2⟩
 clear hop
 generalize au.new 2000=M0 at *
 go_wp2_with (with_reducible apply fV)
 refine ⟨fH o7 h2 rfl ?_⟩
 intro b4 w4 h4
 go_wp2_with ((with_reducible refine bZ ⟨?_⟩);refine gy (eU Rep.dY.zero) h4 aj aj aj dB ak aj ?_;intro w5 h5)
 go_wp2_with (first
  |((with_reducible apply aaV);refine ⟨?_⟩;refine Ah aj ?_)
  |((with_reducible apply Ag);refine ⟨?_⟩;refine Ak aj aal ?_))
 have h6:Sat w0 w5 (aY r m 200 p ps pn false::aJ pn (Rep.dW (Rep.dR 0 [])) 0::aO p m ⟨200,[],false,0⟩::aK m M0::F):=h5.sb
 clear h2 h4 h5
 -- the first Put
 have hgx:(ah.encode ⟨0,lu,[]⟩).2=0:=Seg.NM um [] (acv _)
 obtain ⟨a1,a2,a3,a4,ajg,a5,a6,a7⟩:=hR.Zt (x:=⟨0,lu,[]⟩) aN aN rfl um (acv _) hgx aN
 have hp:=Qp aN um [] none 0 (fun w _=>vT 1 0 w) (acv _) hR.hg.keeps.log hR.hg.keeps.calm.ok aN (Ro.os HH.out) a1 h6
 rw [← a7]at hp
 generalize (⟨200,[],false,0⟩:Seg.Log).append M0 ⟨0,lu,[]⟩=q at *
 obtain ⟨⟨L1,M1⟩,pc1,e1⟩:=q
 dsimp only at a1 a2 a3 a4 hp
 refine hp.mono ?_
 rintro e w7 ⟨v,rfl,rfl,h7⟩
 clear hp h6 hR
 rw [show Tab.put (Rep.dW (Rep.dR 0 [])) lu (Rep.iE ajg)=Rep.dW (Rep.dR 0 ([]++[[⟨0,lu,[]⟩]])) by
  rw [a5,Rep.Jh (by unfold Rep.dw;rw [a6])]
  unfold Rep.dI
  rw [a6]]at h7
 clear a5 a6 a7
 obtain ⟨b1,b2,b3,yX⟩:=a4.U4 aN aN um (acv _) rfl hgx a2 a3 aN
 have hc:=Qn a4 aN aN aN b1 (Ro.os HH.out) h7
 clear a1 a2 a3 h7
 generalize L1.commit M1=q at *
 obtain ⟨⟨L2,M2⟩,n2,e2⟩:=q
 dsimp only at b2 b3 yX hc
 go_wp2_with fail
 refine hc.mono ?_
 rintro e w8 ⟨v,rfl,ps2,pi2,B2,uv2,tv2,N2,Ky,pl2,M3,C2,bb,rfl,⟨hcd,⟨hbb,_⟩,_⟩,h8⟩
 clear hc
 have hC2:C2=[[⟨0,lu,[]⟩,Seg.aW]]:=Seg.aib hcd.flat (yX hcd.rp.hg)
 subst hC2
 obtain ⟨amR,c1,c2⟩:=hcd.row
 rw [show Rep.dW (Rep.dR 0 ([]++[[⟨0,lu,[]⟩]]))=Rep.dW (Rep.dR 0 [[⟨0,lu,[]⟩,Seg.aW]]) by
  rw [c1,Rep.Po (by unfold Rep.dw;rw [c2];rfl)]]at h8
 have hR2:=hcd.rp
 clear b1 yX a4 hcd c1 c2
 go_wp2_with (first
  |((with_reducible apply aaV);refine ⟨?_⟩;refine Ah aj ?_)
  |((with_reducible apply Ag);refine ⟨?_⟩;refine Ak aj aal ?_)
  |((with_reducible refine ads ⟨?_⟩);refine Ah aj ?_;refine qB (e:=5) (sz:=1) (fA:=1) (cs:=#[.int .u8 1]) ak h8 aj rfl rfl bJ ?_;intro bD wD hD))
 have h9:Sat w0 wD (aY r m 200 p ps2 pn false::aJ pn (Rep.dW (Rep.dR 0 [[⟨0,lu,[]⟩,Seg.aW]])) (0+1)::aO p m L2::aK m M3::aB 5 1 (.slice (some ⟨bD,0,none⟩) 1 1) (aA [1])::F):=
  (Sat.kR (n:=1) (cap:=1) (xs:=aA [1]) (sz:=1) hD aj (abm 1) (abm _) aN aj).sb
 clear hD h8
 have Et:(ah.encode ⟨0,lu,[1]⟩).2=0:=Seg.NM um [1] aN
 obtain ⟨a1,a2,a3,a4,row3,a5,a6,a7⟩:=hR2.Zt (x:=⟨0,lu,[1]⟩) aN aN b2 um aN Et oQ
 have hp:=Qp aN um [1] (some ⟨bD,0,none⟩) 1 (Ro.Jl (fun w hw=>Sat.rd hw) aV) aN hR2.hg.keeps.log hR2.hg.keeps.calm.ok aN (Ro.os HH.out) a1 h9
 rw [← a7]at hp
 clear h9
 generalize L2.append M3 ⟨0,lu,[1]⟩=q at *
 obtain ⟨⟨L3,M4⟩,pc3,e3⟩:=q
 dsimp only at a1 a2 a3 a4 hp
 refine hp.mono ?_
 rintro e w10 ⟨v,rfl,rfl,h10⟩
 clear hp hR2
 rw [show Tab.put (Rep.dW (Rep.dR 0 [[⟨0,lu,[]⟩,Seg.aW]])) lu (Rep.iE row3)=Rep.dW (Rep.dR 0 ([[⟨0,lu,[]⟩,Seg.aW]]++[[⟨0,lu,[1]⟩]])) by
  rw [a5,Rep.Jh (by unfold Rep.dw;rw [a6])]
  unfold Rep.dI
  rw [a6]]at h10
 clear a5 a6 a7
 obtain ⟨b1,b2',b3',yX⟩:=a4.U4 aN aN um aN rfl Et a2 (a3.trans b3) oQ
 have hc:=Qn a4 aN aN aN b1 (Ro.os HH.out) h10
 clear a1 a2 a3 h10 b2 b3
 generalize L3.commit M4=q at *
 obtain ⟨⟨L4,M5⟩,n4,e4⟩:=q
 dsimp only at b2' b3' yX hc
 go_wp2_with fail
 refine hc.mono ?_
 rintro e iY ⟨v,rfl,Zn,Zl,B4,uv4,tv4,N4,us4,pl4,M6,C4,b5,rfl,⟨hcd,_,_⟩,h11⟩
 clear hc
 obtain ⟨row4,c1,c2⟩:=hcd.row
 have hC4:C4=[[⟨0,lu,[]⟩,Seg.aW],[⟨0,lu,[1]⟩,Seg.aW]]:=Seg.alx hcd.flat (yX hcd.rp.hg) c1
 subst hC4
 have u1:=hcd.st.std.uses
 have hsp:=Vf (pc:=100) aN hcd.rp.rpd aN u1 (abV hcd.len.1 aN) (Ro.os HH.out) (h11.sb:Sat w0 iY (aY r m 200 p Zn pn false::cZ Zn N4 Zl uv4 tv4::aJ Zl (Tab.mapOf pl4) B4::aB 45 3 uv4 (us4.flatMap bH)::aO p m L4::aK m M6::F))
 have hres:=aI.akM (x:=⟨0,lu,[]⟩) (y:=⟨0,lu,[1]⟩) rfl rfl rfl (by rw [Seg.PU hgx um rfl];decide) (by rw [Seg.PU Et um rfl];decide) N4
 rw [hcd.now]at hsp
 unfold qw at hsp
 rw [aI.akm,hres]at hsp
 clear hres hcd u1 c1 c2 h11 b1 b2' b3' yX a4
 go_wp2_with fail
 refine hsp.mono ?_
 rintro e w12 ⟨v,rfl,sv,rfl,h12⟩
 clear hsp
 obtain ⟨bk,off,c2,e2,hcell⟩:=vH (Sat.rd h12) (i:=0) (s:=0) rfl
 cases e2
 have hcell0:w12.cell? ⟨bk,off,none⟩=some (.int .i64 0):=hcell
 have gu:=uQ (h12.sb:Sat w0 w12 F)
 clear h12
 go_wp2_with fail
 go_ret
 exact ⟨_,rfl,rfl,gu.out⟩
end
end Go.Proofs.YtihngncbioofnaaGreatDoor
namespace Go.aI
open Go.ah (Bs bV aG bT encs eY)
theorem D7:∀ (l:List bV) (k:Nat),0≤kZ (l.take k)∧kZ (l.take k)≤kZ l
 |[],k=>by rw [List.take_nil];exact ⟨amT _,amT _⟩
 |f::l,0=>by
  have h:=D7 l 0
  rw [adW]at h ⊢
  unfold kZ at h ⊢
  unfold kZ
  split <;> omega
 |f::l,k+1=>by
  have h:=D7 l k
  rw [anA]
  unfold kZ
  split <;> omega
end Go.aI
namespace Go.Proofs.YtihngncbioofnaaGreatDoor
open Go Go.Sl Go.au Go.MapKept Go.RowKit
section
variable {w0 w:World}{F:List aH}{lv:Value}{r m K r0 E n:Nat}{seg pc:Int}{D:List (Nat×List ah.aG)}
theorem Ve (hpc:0≤pc∧pc≤100) (h1:128≤seg) (h2:seg≤1048576) (hn2:n≤200) (hn:2 * n+E<470) (hK:K≤500000) (hr:(2 * n+1) * 400+E * (20+28 * n)≤r0) (hH:Ro w0 F Half) (h:qH w0 r m seg K r0 E n D F w) :
  Calls Tryz.prog 10 #[ptr r,.int .i64 pc] w (aP fun v w'=>∃ (gv:Value) (D1:List (Nat×List ah.aG)),v = .tuple #[gv,errno 0]∧(Rep.kH (Seg.iD D1)=Rep.kH (Seg.iD D)∧aI.Rnd pc D D1)∧qH w0 r m seg (K+5 * n+700) r0 (E+2) (2 * n+1) D1 F w'):=by
 refine (aeu hpc h1 h2 hn2 hn hK hH h).mono ?_
 rintro e w' ⟨v,rfl,h3|⟨_,h3,_⟩⟩
 ·exact ⟨_,rfl,h3⟩
 ·omega
theorem aev (hpc:0≤pc∧pc≤100) (hn:n≤1000){D0:List (Nat×List ah.aG)} (hr:aI.Rnd pc D0 D) (hH:Ro w0 F Half) (h:qH w0 r m seg K r0 E n D F w) :
  Calls Tryz.prog 11 #[ptr r,.int .i64 pc] w (aP fun v w'=>∃ (a:Option Addr) (c:Nat),v = .tuple #[.slice a 0 c,errno 0]∧qH w0 r m seg K r0 E n D F w'):=by
 obtain ⟨ps,p,pn,pi,B,B2,B0,uv,tv,N,us,L,M,⟨hC,hb,hb2⟩,hS⟩:=h
 have hc:=hr.clean hpc.2 hC.rp
 refine (Vf hpc hC.rp hn hC.st.uses (by omega:B2≤13000000) (Ro.os hH) (hS.sb:Sat w0 w (aY r m seg p ps pn false::cZ ps N pi uv tv::aJ pi (Rep.dW (Seg.dD D)) B2::aB 45 3 uv (us.flatMap bH)::aO p m L::aK m M::aJ pn (Rep.dW (Seg.dD D)) B::F))).mono ?_
 rintro e w' ⟨v,rfl,sv,rfl,h2⟩
 have hz:aI.jH (aI.chosen (qw N (Rep.dW (Seg.dD D)) D) pc) (aI.fF D)=[]:=by
  rw [hC.st.last]
  rw [show aI.chosen (qw (Seg.gI D) (Rep.dW (Seg.dD D)) D) pc=[] from aI.ad6 hc]
  unfold aI.jH
  simp
 rw [hz]at h2
 obtain ⟨a,c,rfl⟩:=BH (Sat.rd h2)
 exact ⟨_,rfl,a,c,rfl,ps,p,pn,pi,B,B2,B0,uv,tv,N,us,L,M,⟨hC,hb,hb2⟩,h2.sb⟩
set_option maxRecDepth 20000 in
theorem aei (z pc:Int) (ds:List QD) (hr:Ro w0 F (bG 37 lv (kJ ds))) (he:∀ d∈ds,AQ w0 F d) (hH:Ro w0 F Half) (h:Sat w0 w F) :
  Calls Tryz.prog 3 #[.int .i64 z,.int .i64 pc,lv] w (aP fun v w'=>v = .bool true∧Sat w0 w' F):=by
 have Hr:=uQ hr;have He:=uQ he;have HH:=uQ hH
 clear hr he hH
 go_enter Tryz.func3,Tryz.ntmps3
 go_wp2_with fail
 refine (aff ds 40 aN Hr.out (fun d hd=>(He.out d hd).of_sub fun w hw=>hw) h).mono ?_
 rintro ee w2 ⟨v,rfl,es,ov,rfl,hes,_,h2⟩
 obtain ⟨q1,q2⟩:=afh hes (fun d hd=>(He.out d hd).key)
 have Dq:=uQ q1;have SL:=uQ q2
 obtain ⟨oa,oc,rfl⟩:=aiU (fun d hd=>(SL.out d hd).1) h2
 clear h hes q1 q2
 have hpl:=aiz z es (Ro.Jl (fun w hw=>Sat.rd hw) aV) SL.out (fun d hd=>by
  obtain ⟨i,hi⟩:=anj hd
  exact Ro.Jl (aeC hi) aX) Dq.out (Ro.os HH.out) h2
 clear h2
 go_wp2_with fail
 refine hpl.mono ?_
 rintro ee w3 ⟨v,rfl,r,m,lim,o,rfl,hlim,h3⟩
 clear hpl
 have rE:=uQ hlim
 obtain ⟨D,hoD,h4⟩:=h3.rd aN aN aN
 have hwp:=abp pc 0 100
 have hpm:=abq pc 0 100 aN
 generalize within pc 0 100=pcc at *
 have TI:=uQ hpm
 have HX:=uQ (show Ro w0 (aB 69 37 (.slice oa es.length oc) (kJ es)::rH es::F) Half from Ro.os HH.out)
 clear h3 hlim hoD hpm
 go_wp2_with fail
 refine (hwp _).mono ?_
 rintro ee w5 ⟨v,rfl,rfl,rfl⟩
 clear hwp
 have hrun:=Ve TI.out rE.out.1 (by have:=rE.out;omega) aN aN aN aN HX.out h4
 clear h4
 go_wp2_with fail
 refine hrun.mono ?_
 rintro ee w6 ⟨v,rfl,gv,D1,rfl,⟨_,hcl⟩,h6⟩
 have hsp:=aev TI.out aN hcl HX.out h6
 clear hrun hcl h6
 go_wp2_with fail
 refine hsp.mono ?_
 rintro ee w7 ⟨v,rfl,sa,sc,rfl,h7⟩
 have hrun:=Ve (pc:=100) aN rE.out.1 (by have:=rE.out;omega) aN aN aN aN HX.out h7
 clear hsp h7
 go_wp2_with fail
 refine hrun.mono ?_
 rintro ee w8 ⟨v,rfl,gv2,D2,rfl,⟨_,hcl⟩,h8⟩
 clear hrun
 obtain ⟨ps,p,pn,pi,B,B2,B0,uv,tv,N,us,L,M,⟨hC,hb,hb2⟩,hS⟩:=h8
 have gB:=uQ (hcl.clean aN hC.rp);have HC:=uQ hC
 have XH:us.length=D2.length:=by
  have h1:=acX List.length hC.st.uses
  rwa [abj,abj]at h1
 have hdl:D2.length≤167:=hC.rp.hd.count
 have DL:=uQ XH;have Hdl:=uQ hdl
 have hst:=Qq (by omega:B2≤14000000) (by omega:us.length≤65536) (hS.sb:Sat w0 w8 (aY r m lim p ps pn false::cZ ps N pi uv tv::aJ pi (Rep.dW (Seg.dD D2)) B2::aB 45 3 uv (us.flatMap bH)::aO p m L::aK m M::F))
 clear hcl hC hS hb hb2 XH hdl
 go_wp2_with fail
 refine hst.mono ?_
 rintro ee w9 ⟨v,rfl,q,qi,vv,rfl,h9⟩
 clear hst
 have e2:w9.cell? ⟨q,2,none⟩=some vv:=h9.cellP aV 2 rfl
 obtain ⟨va,vc,rfl⟩:=jI (f:=bH) (k:=3) (l:=us) (fun u _=>uG u) (Sat.rd (h9.pk (A:=aB 45 3 vv (us.flatMap bH)))) aN
 have h10:Sat w0 w9 (aB 45 3 (.slice va us.length vc) (us.flatMap bH)::aO p m L::aK m M::aY r m lim p ps pn false::F):=h9.sb
 clear h9
 go_wp2_with fail
 clear e2
 go_loopg [18] us.length (fun g iq wr=>∃ i:Nat,g=us.length - i∧i≤us.length∧iq = .int .i64 i∧Sat w0 wr (aB 45 3 (.slice va us.length vc) (us.flatMap bH)::aO p m L::aK m M::aY r m lim p ps pn false::F))
 case atStart=>exact ⟨0,rfl,acv _,rfl,h10⟩
 case round=>
  obtain ⟨i,rfl,hi,rfl,hS⟩:=hrel
  clear h10
  by_cases hlt:i<us.length
  rotate_left
  focus
   obtain rfl:i=us.length:=by omega
   have c1:decide ((us.length:Int)<(us.length:Int))=false:=acu oQ
   have c1':¬ (us.length:Int)<(us.length:Int):=oQ
   have Ey:=Fq (hS.sb:Sat w0 wr (aY r m lim p ps pn false::F))
   have hsg:=Ja HC.out.rp.hd.keeps.log (hS.sb:Sat w0 wr (aO p m L::F))
   clear hi hlt hS
   go_wp2_with fail
   refine Ey.mono ?_
   rintro ee iY ⟨v,rfl,rfl,rfl⟩
   clear Ey
   go_wp2_with fail
   refine hsg.mono ?_
   rintro ee w12 ⟨v,rfl,h12⟩
   clear hsg
   obtain ⟨na,nc,rfl⟩:=BH (Sat.rd h12)
   have hbe:((us.length:Int)==(L.aF.length:Int))=true:=by
    rw [HC.out.rp.hd.aF,abj,DL.out]
    exact beq_self_eq_true _
   have hlv:=aho HH.out h12.drop.drop
   clear h12
   go_wp2_with fail
   refine hlv.mono ?_
   rintro ee kY ⟨v,rfl,rfl,h13⟩
   go_wp2_with fail
   go_ret
   exact ⟨_,rfl,rfl,h13⟩
  have c1:decide ((i:Int)<(us.length:Int))=true:=acT oQ
  have c1':(i:Int)<(us.length:Int):=oQ
  have hwi:IntKind.i64.wrap ((i:Int)+1)=(i:Int)+1:=abX _ (by have:=DL.out;have:=Hdl.out;omega)
  obtain ⟨d,hd⟩:∃ d,D2[i]?=some d:=⟨_,aad (by rw [← DL.out];exact hlt)⟩
  have hdm:=abn hd
  obtain ⟨kv,k1,k2,k3⟩:=HC.out.st.kv
  have hiu:us[i]?=some ⟨(d.1:Int),((Seg.mag++ah.encs d.2).length:Int),aI.pay (ah.bT d.2 8)⟩:=by
   rw [k3,ab2]
   unfold Seg.kU
   rw [ab2,hd]
   show some (Rep.upd kv _)=_
   unfold Rep.upd
   simp only
   rw [aI.ahm HC.out.rp gB.out k1 hdm]
  have Oj:=aI.Zg d.2 8
  have hle:=(aI.ug (P:=⟨0,[],fun _=>none,fun _=>none⟩) (gs:=[]) (s:=0) (ah.bT d.2 8))
  have hby:=fun (w2:World) (R:List aH) (hw:Sat w0 w2 (aO p m L::aK m M::R))=>I8 HC.out.rp.hd.keeps.log HC.out.rp.hd.keeps.calm.ok (d.1:Int) hw
  have hbl:=Seg.DY (L:=L) HC.out.rp.hd.keeps.calm.ok (d.1:Int)
  rw [HC.out.rp.hd.bytes hdm]at hby hbl
  have Es:(Seg.mag++ah.encs d.2).length≤16777216:=hbl
  have hml:(Seg.mag++ah.encs d.2).length=8+(ah.encs d.2).length:=aac
  have Dn:=uQ hby
  have qm:=uQ (ah.Fv d.2 (HC.out.rp.hd.good d hdm).1)
  obtain ⟨dn,des⟩:=d
  dsimp only at hiu Oj hle Dn qm Es hml
  have bY:=uQ hlt
  generalize Seg.mag++ah.encs des=bl at *
  obtain ⟨py,hpy⟩:∃ py,aI.pay (ah.bT des 8)=py:=⟨_,rfl⟩
  rw [hpy]at hiu Oj hle
  have AL:=uQ (show 0≤py∧(bl.length:Int)=8+py+aI.kZ (ah.bT des 8)∧bl.length≤16777216 by omega)
  have h11:=hS.drew
  obtain ⟨bk,off,cc,e,hcell⟩:=jF (f:=bH) (k:=3) (fun u _=>uG u) (Sat.rd h11) hiu aN
  cases e
  have S9:=uQ hiu
  clear hS hi hlt hd hdm k1 k2 k3 hiu Oj hle hby hbl Es hml hpy
  have f0:=hcell 0 _ rfl
  rw [aj9]at f0
  clear hcell
  go_wp2_with fail
  refine dU [7,8,9,10,11,12] (fun w'=>w'.cell? ⟨bk,off+i * 3,none⟩=some (.int .i64 (dn:Int))) ak ?_
  have hG:=f0
  refine rP 0 ?_ (y:=bf)
  refine rP 2 ?_ (y:=bf)
  refine rP 3 ?_ (y:=bf)
  refine rP 4 ?_ (y:=jh)
  refine rP 5 ?_ (y:=bU)
  refine rt 6 (h:=?_)
  refine cO 1 ay ak (fun K hK=>?_)
  (refine pG ak ay ?_)
  refine (Fq (h11.sb:Sat w0 _ (aY r m lim p ps pn false::F))).mono ?_
  rintro ee w12 ⟨v,rfl,rfl,rfl⟩
  refine hK _ _ (.inr (.inl hG)) ?_
  clear hK hG f0
  refine cO 7 ay ak (fun K hK=>?_)
  (refine iG ak ay ay ?_)
  refine (Dn.out _ _ (h11.sb:Sat w0 _ (aO p m L::aK m M::aB 45 3 (.slice (some ⟨bk,off,none⟩) us.length vc) (us.flatMap bH)::aY r m lim p ps pn false::F))).mono ?_
  rintro ee kY ⟨v,rfl,bv,rfl,h13⟩
  refine hK _ _ (.inl rfl) ?_
  clear hK h11
  refine rP 8 ?_ (y:=bf)
  refine rP 9 ?_ (y:=(iF ay eH))
  refine rP 10 ?_ (y:=(iF ay eH))
  refine rP 11 ?_ (y:=gV)
  refine rP 12 ?_ (y:=gV)
  refine dO ak ?_
  obtain ⟨hcap,ca,cb,rfl⟩:=Ib h13
  have hsc:=Iy bl (Ro.dh _ _) hcap (Ro.os HH.out) (by have:=AL.out;omega) h13
  rw [qm.out]at hsc
  clear hcap h13
  go_wp2_with fail
  refine hsc.mono ?_
  rintro ee mZ ⟨v,rfl,fs,fv,hfs,hfk,rfl,jQ⟩
  clear hsc
  obtain ⟨fa,fc,rfl⟩:=Ir hfk jQ
  try dsimp only at hfs
  have kL:=uQ hfs;have nV:=uQ hfk
  have hfl:fs.length≤16777216:=by
   have h1:=ah.JG bl
   rw [qm.out]at h1
   have h2:=acX List.length kL.out
   rw [abj]at h2
   dsimp only at h1
   have:=AL.out
   omega
  have uN:=uQ hfl
  try dsimp only
  have h15:Sat w0 mZ (aB 54 36 (.slice fa fs.length fc) (jg fs)::aB 45 3 (.slice (some ⟨bk,off,none⟩) us.length vc) (us.flatMap bH)::aO p m L::aK m M::aY r m lim p ps pn false::F):=jQ.sb
  obtain ⟨_,_,_,e3,hcell⟩:=jF (f:=bH) (k:=3) (fun u _=>uG u) (Sat.rd (h15.pick aX)) S9.out aN
  cases e3
  have f1:=hcell 1 _ rfl
  have hbn:((bl.length:Int) != (bl.length:Int))=false:=bne_self_eq_false _
  clear hfs hfk hfl jQ hcell
  go_wp2_with fail
  clear f1 hbn
  go_loopg [24,25] fs.length (fun g cq jq wr=>∃ j:Nat,g=fs.length - j∧j≤fs.length∧cq = .int .i64 (aI.kZ ((fs.take j).map (·.1)))∧jq = .int .i64 j∧Sat w0 wr (aB 54 36 (.slice fa fs.length fc) (jg fs)::aB 45 3 (.slice (some ⟨bk,off,none⟩) us.length vc) (us.flatMap bH)::aO p m L::aK m M::aY r m lim p ps pn false::F))
  case atStart=>exact ⟨0,rfl,acv _,rfl,rfl,h15⟩
  case round=>
   obtain ⟨j,rfl,hj,rfl,rfl,hS⟩:=hrel
   clear h15
   by_cases hjl:j<fs.length
   rotate_left
   focus
    obtain rfl:j=fs.length:=by omega
    have d1:decide ((fs.length:Int)<(fs.length:Int))=false:=acu oQ
    have d1':¬ (fs.length:Int)<(fs.length:Int):=oQ
    obtain ⟨cm,hcm⟩:∃ cm,aI.kZ ((fs.take fs.length).map (·.1))=cm:=⟨_,rfl⟩
    have hcm2:cm=aI.kZ (ah.bT des 8):=by rw [← hcm,acK,kL.out]
    have hcp:=(aI.D7 (ah.bT des 8) 0).2
    rw [adW]at hcp
    have hc0:aI.kZ []=0:=rfl
    have hnum:=AL.out
    rw [← hcm2]at hnum hcp
    rw [hcm]
    have w1:IntKind.i64.wrap (8+py)=8+py:=abX _ oQ
    have w2:IntKind.i64.wrap (8+py+cm)=8+py+cm:=abX _ oQ
    have hbn:((bl.length:Int) != 8+py+cm)=false:=by rw [hnum.2.1];exact bne_self_eq_false _
    have hS2:=hS.drew
    obtain ⟨_,_,_,e3,hcell⟩:=jF (f:=bH) (k:=3) (fun u _=>uG u) (Sat.rd (hS2.pick aX)) S9.out aN
    cases e3
    have f1:=hcell 1 _ rfl
    have f2:=hcell 2 _ rfl
    clear hcell hj hjl hcm hcm2 hcp hc0 hnum hS
    go_wp2_with fail
    refine dU [13] (fun w'=>w'.cell? ⟨bk,off+i * 3+1,none⟩=some (.int .i64 (bl.length:Int))∧w'.cell? ⟨bk,off+i * 3+2,none⟩=some (.int .i64 py)) ak ?_
    have hG:=And.intro f1 f2
    refine rP 0 ?_ (y:=bf)
    refine rP 1 ?_ (y:=bf)
    refine rP 2 ?_ (y:=jh)
    refine rP 3 ?_ (y:=bU)
    refine rt 4 (h:=?_)
    refine rP 5 ?_ (y:=bf)
    refine rP 6 ?_ (y:=bf)
    refine rP 7 ?_ (y:=jh)
    refine rP 8 ?_ (y:=bU)
    refine rt 9 (h:=?_)
    refine rP 10 ?_ (y:=jU)
    refine rP 11 ?_ (y:=bf)
    refine rP 12 ?_ (y:=jU)
    refine rP 13 ?_ (y:=jU)
    clear hG
    refine dO ak ?_
    have gu:=uQ (hS2.sb:Sat w0 _ (aB 45 3 (.slice (some ⟨bk,off,none⟩) us.length vc) (us.flatMap bH)::aO p m L::aK m M::aY r m lim p ps pn false::F))
    clear hS2 f1 f2
    go_wp2_with fail
    go_roundg (us.length - (i+1))
    case measure=>have:=bY.out;omega
    case rel=>exact ⟨i+1,rfl,acO bY.out,by first|rfl|go_num,gu.out⟩
   have d1:decide ((j:Int)<(fs.length:Int))=true:=acT oQ
   have d1':(j:Int)<(fs.length:Int):=oQ
   have EH:IntKind.i64.wrap ((j:Int)+1)=(j:Int)+1:=abX _ (by have:=uN.out;omega)
   obtain ⟨⟨f,dv⟩,hq⟩:∃ q,fs[j]?=some q:=⟨_,aad hjl⟩
   have l7:f.e.key.length=32:=nV.out _ (abn hq)
   obtain ⟨bk2,off2,c2,e2,hcell⟩:=jF (f:=fun q:ah.bV×Value=>lS q.1 q.2) (k:=36) (fun q hq=>qM q.1 q.2 (nV.out q hq)) (Sat.rd hS) hq aN
   cases e2
   have f0:wr.cell? ⟨bk2,off2+j * 36,none⟩=some (.int .i64 f.e.tag):=hcell 0 _ rfl
   have f35:wr.cell? ⟨bk2,off2+j * 36+35,none⟩=some (.int .i64 (f.size:Int)):=hcell 35 _ (by
    have h1:=(Bo f dv l7).2.1
    unfold fJ at h1
    rw [abT]at h1
    exact h1)
   have gG:=uQ (show aI.kZ ((fs.take (j+1)).map (·.1))=aI.kZ ((fs.take j).map (·.1))+(if f.e.tag=2 then (f.size:Int) else 0) by
    rw [adT,hq,agX,ab8,aci,acZ,aI.U5])
   have hb1:=aI.D7 (ah.bT des 8) (j+1)
   have hb0:=aI.D7 (ah.bT des 8) j
   rw [← kL.out,← am5,gG.out]at hb1
   rw [← kL.out,← am5]at hb0
   rw [kL.out]at hb1 hb0
   obtain ⟨cm,hcm⟩:∃ cm,aI.kZ ((fs.take j).map (·.1))=cm:=⟨_,rfl⟩
   rw [hcm]at gG hb1 hb0
   rw [hcm]
   have hnum:=AL.out
   have jT:=uQ hjl
   by_cases ht:f.e.tag=2
   focus
    rw [abN ht]at hb1 gG
    have hb:(f.e.tag==2)=true:=alZ.2 ht
    have hwp:IntKind.i64.wrap (cm+(f.size:Int))=cm+(f.size:Int):=abX _ oQ
    clear hcell hq l7 hj hjl hcm hb1 hb0 hnum ht
    go_wp2_with fail
    go_roundg (fs.length - (j+1))
    case measure=>have:=jT.out;omega
    case rel=>exact ⟨j+1,rfl,acO jT.out,by rw [gG.out],by first|rfl|go_num,hS⟩
   rw [abk ht,Int.add_zero]at gG
   have hb:(f.e.tag==2)=false:=by rw [ab4];exact ht
   clear hcell hq l7 hj hjl hcm hb1 hb0 hnum ht
   go_wp2_with fail
   go_roundg (fs.length - (j+1))
   case measure=>have:=jT.out;omega
   case rel=>exact ⟨j+1,rfl,acO jT.out,by rw [gG.out],by first|rfl|go_num,hS⟩
end
end Go.Proofs.YtihngncbioofnaaGreatDoor
namespace Go.Proofs.YtihngncbioofnaaGreatDoor
open Go Go.Sl Go.au Go.ChangeShapes Go.WideShapes Go.RowKit
structure QD.At (W:World) (d:QD):Prop where
 kind:qN d.c.kind
 key:d.c.key.length=32
 rd:bG 1 d.dv (aA d.c.data) W
 cap:lH d.dv
 n:qN d.c.n
 m:qN d.c.m
 rl:bG 1 d.lv (ints d.c.l) W
 MX:lH d.lv
 ins:∀ i∈d.c.l,qN i
section
variable {H:Type}{enc:TypeId×Value→H}{W:World}{base:Nat}{spare:Nat→Bool}{held:Bool}
set_option maxRecDepth 100000 in
theorem aii {fuel:Nat}{cs:List Value}{x:DataW H×List MemPlace} (h:DataW.trod enc Tryz.prog W base spare held fuel 69 cs=some x):∃ d:QD,mF d=cs∧d.At W:=by
 obtain ⟨hl,hf⟩:=aie Tryz.underlying69 h
 have e37:Tryz.prog.cellsOf 69=37:=by kernel_rfl
 have e1:Tryz.prog.cellsOf 3=1:=by kernel_rfl
 have e2:Tryz.prog.cellsOf 50=32:=by kernel_rfl
 have e3:Tryz.prog.cellsOf 39=1:=by kernel_rfl
 have e5:Tryz.prog.cellsOf 5=1:=by kernel_rfl
 have e4:Tryz.prog.cellsOf 29=1:=by kernel_rfl
 rw [e37]at hl
 obtain ⟨n0,y0,h0⟩:=hf 0 _ rfl
 obtain ⟨n1,y1,h1⟩:=hf 1 _ rfl
 obtain ⟨n2,y2,h2⟩:=hf 2 _ rfl
 obtain ⟨n3,y3,h3⟩:=hf 3 _ rfl
 obtain ⟨n4,y4,h4⟩:=hf 4 _ rfl
 obtain ⟨n5,y5,h5⟩:=hf 5 _ rfl
 simp only [List.getElem_toArray,List.getElem_cons_zero,List.getElem_cons_succ,e1,e2,e3,e4,anM]at h0 h1 h2 h3 h4 h5
 obtain ⟨z0,q0,_,w0⟩:=anK Tryz.underlying3 h0
 obtain ⟨kl,k1,k2⟩:=aif Tryz.underlying50 e2 h1
 have hd:∃ v,(cs.drop 33).take 1=[v]:=by
  have:((cs.drop 33).take 1).length=1:=by rw [abU,acg];omega
  exact List.length_eq_one_iff.1 this
 obtain ⟨dv,hdv⟩:=hd
 rw [hdv]at h2
 obtain ⟨l2,r2,c2⟩:=agH Tryz.underlying39 Tryz.underlying5 e5 h2
 obtain ⟨z3,q3,_,w3⟩:=anK Tryz.underlying3 h3
 obtain ⟨z4,q4,_,w4⟩:=anK Tryz.underlying3 h4
 have hd:∃ v,(cs.drop 36).take 1=[v]:=by
  have:((cs.drop 36).take 1).length=1:=by rw [abU,acg];omega
  exact List.length_eq_one_iff.1 this
 obtain ⟨lv,hlv⟩:=hd
 rw [hlv]at h5
 obtain ⟨l6,r6,c6,i6⟩:=agI Tryz.underlying29 Tryz.underlying3 e1 h5
 refine ⟨⟨⟨z0,kl,l2,z3,z4,l6⟩,dv,lv⟩,?_,bounds_i64 w0,k2,r2,c2,bounds_i64 w3,bounds_i64 w4,r6,c6,i6⟩
 show (Value.int .i64 z0::aA kl)++dv::[.int .i64 z3,.int .i64 z4,lv]=cs
 have s1:cs=cs.take 1++((cs.drop 1).take 32++((cs.drop 33).take 1++((cs.drop 34).take 1++((cs.drop 35).take 1++(cs.drop 36).take 1)))):=by
  have a4:(cs.drop 36).take 1=cs.drop 36:=acs (by rw [acg];omega)
  have a3:(cs.drop 35).take 1++cs.drop 36=cs.drop 35:=by
   rw [show cs.drop 36=(cs.drop 35).drop 1 by rw [anw]];exact ac3 1 _
  have a2:(cs.drop 34).take 1++cs.drop 35=cs.drop 34:=by
   rw [show cs.drop 35=(cs.drop 34).drop 1 by rw [anw]];exact ac3 1 _
  have a1:(cs.drop 33).take 1++cs.drop 34=cs.drop 33:=by
   rw [show cs.drop 34=(cs.drop 33).drop 1 by rw [anw]];exact ac3 1 _
  have a0:(cs.drop 1).take 32++cs.drop 33=cs.drop 1:=by
   rw [show cs.drop 33=(cs.drop 1).drop 32 by rw [anw]];exact ac3 32 _
  rw [a4,a3,a2,a1,a0]
  exact (ac3 1 cs).symm
 rw [s1,q0,← k1,hdv,q3,q4,hlv];rfl
theorem agJ {fuel:Nat}{v:Value}{x:DataW H×List MemPlace} (h:DataW.trod enc Tryz.prog W base spare held fuel 22 [v]=some x) :
  ∃ ds:List QD,bG 37 v (kJ ds) W∧lH v∧∀ d∈ds,d.At W:=by
 obtain ⟨elems,h1,h2,h3⟩:=Y9 Tryz.underlying22 (k:=37) ak oQ h
 obtain ⟨ds,h4,h5⟩:=O4 (f:=mF) (p:=fun d=>d.At W) elems fun cs hcs=>by
  obtain ⟨_,n,y,h6⟩:=h3 cs hcs
  exact aii h6
 refine ⟨ds,?_,h2,h5⟩
 unfold kJ
 rw [List.flatMap_def,h4]
 exact h1
theorem QD.At.ro {d:QD} (h:d.At W):AQ W [Sl.old W] d:=⟨h.key,P6 h.rd,h.cap,P6 h.rl,h.MX⟩
end
end Go.Proofs.YtihngncbioofnaaGreatDoor
namespace Go.Proofs.YtihngncbioofnaaGreatDoor.card
open Go.ChangeShapes Go.WideShapes Go.ChangeAt Go.RowKit
open Go Go.Sl Go.au
theorem afF:Tryz.prog.globalNamed "hoard/crc.half" = some 0:=by kernel_rfl
theorem ak8:((Tryz.prog.globals[0]?).map (·.type))=some 277:=by kernel_rfl
theorem door_met (os:Os) (args:Array Value):laidMetH Tryz.prog [("hoard/crc.half",Rows.laid_hoard_crc_half)] ((World.doorLaid Tryz.prog 400 os).forCall (fun _ _=>0) ⟨#[],args,[]⟩).memory:=
 laidMetH_of_parts3 (fuel:=8) (laidMet_of_run' 8 ak ak) ak ak
theorem of_laid {W:World} (h:laidMetH Tryz.prog [("hoard/crc.half",Rows.laid_hoard_crc_half)] W):0<W.heap.size∧Half W:=by
 rw [MakeChecks.laidMetH_plain _ _ _ ak]at h
 obtain ⟨ps,⟨g0,t0,cs0,f0,p0,q0,hg0,ht0,hv0,hd0,hrest⟩,amF⟩:=h
 obtain rfl:=aio (afF.symm.trans hg0)
 obtain rfl:=aio (ak8.symm.trans ht0)
 obtain ⟨xs,m1,rfl,hx1,hlen,hn3,hel⟩:=DataW.trod_array Tryz.underlying277 hd0
 have c3:Tryz.prog.cellsOf 171=1:=by kernel_rfl
 simp only [Prod.mk.injEq,Rows.laid_hoard_crc_half,DataW.agg.injEq]at hx1
 have hH:Half W:=by
  intro i hi
  have h0:=hel i hi
  have hxi:xs[i]?=some (xs[i]'oQ):=aad oQ
  rw [hxi]at h0
  obtain ⟨k,e1,e2,_⟩:=anK Tryz.underlying171 h0
  rw [c3,acP]at e1
  have hc:cs0.toList[i]?=some (.int .u32 k):=by
   have:((cs0.toList.drop i).take 1)[0]?=some (.int .u32 k):=by rw [e1];rfl
   rw [ac0,abN aN,am2]at this
   exact this
  have hL:=acX (fun l=>l[i]?) hx1.1
  rw [ab2,hxi]at hL
  have hk:k=((ah.half.getD i 0:Nat):Int):=by
   rw [e2]at hL
   rcases i with _|_|_|_|_|_|_|_|_|_|_|_|_|_|_|_|i
   all_goals first|omega|(simp at hL;rw [← hL];rfl)
  subst hk
  have:=World.var?_cell hg0 hv0 i
  rw [this,← alv]
  exact hc
 refine ⟨?_,hH⟩
 by_cases hz:0<W.heap.size
 ·exact hz
 ·have h0:=hH 0 aN
  have e:W.heap[0]?=none:=anm oQ
  simp [World.cell?,e]at h0
end Go.Proofs.YtihngncbioofnaaGreatDoor.card
