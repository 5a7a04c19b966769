/- catchmentlaw14.OwnCounts: the walk. · The statement 'OwnCounts': the Go function returns true at every input, and leaves what came in as it was. No condition. -/
import Derived.Test.YtkhcaclndepgbaaGreatZn47
import Derived.Test.YtkhcaclndepgbaaGreatRows
import Derived.ShutString
import Derived.ChangeOld
import Derived.Below
set_option linter.unusedVariables false
set_option linter.unusedSimpArgs false
set_option maxRecDepth 100000
set_option maxHeartbeats 20000000
namespace Go.Proofs.YtkhcaclndepgbaaGreat
open Go.RowKit
theorem ownCounts_walk (a:Option Addr) (n c:Nat) (l:List (Nat × Nat)) (a2:Option Addr) (n2 c2:Nat) (z:Nat->Op3) (w:World) (hl:Its8 [] w (.slice a n c) l) (hz:IsOps3 w a2 n2 c2 z) :
  Calls Tryz.prog 14 #[.slice a n c,.slice a2 n2 c2] w fun e w'=>e = .returned (.bool true)/\Below w.heap.size w w':=by
 obtain ⟨a',c',e,hn,hc⟩:=hl.len;injection e with e1 e2 e3;subst e1;subst e2;subst e3;have hz1:=hz.1;have hz2:c2<=9223372036854775807:=by have:=hz.2.1;unfold maxLen at this;omega
 have cg:=grew_at (N:=400) (m:=60) (by omega) hl (by omega) (by rw [room_fmt (by omega)];decide) (k:=(min ((l.length:Nat):Int) 60).toNat) (by omega) (by omega);rw [show (((400:Nat)):Int)=400 from rfl] at cg;have CG:=zh cg;have HZ0:=zh hz;clear cg hl hz;go_enter Tryz.func14,Tryz.ntmps14;go_wp2_with fail;refine CG.out.mono ?_;clear CG;rintro e w2 ⟨M,x,B,vi,items,rfl,G⟩;obtain ⟨va,vc,rfl,_,_⟩:=G.its.len;have HML:=zh (fun q hq => .inr (G.far q hq):∀ q,q∈M.L->q∈([]:List Nat)∨w.heap.size<=q);by_cases h0:x=0
 ·have z0:((x:Int)==0)=true:=by rw [h0];rfl
  have HG:=zh G.chg;clear G h0;go_wp2_with fail;refine (awake14_at _).mono ?_;rintro e wz ⟨rfl,hZ⟩;have HZ:=zh (HG.out.trans hZ);clear hZ;go_wp2_with fail;go_ret;exact ⟨rfl,HZ.out.below (by simp)⟩
 ·obtain ⟨ht,hr⟩:=G.rts h0
  have z0:((x:Int)==0)=false:=by rw [beq_eq_false_iff_ne];omega
  go_upto_region 5 with fail;have k0:=znb w2 (.cells #[.int .i64 (x:Int)] 3);have c0:=(Chg.refl [] w2).alloc (.cells #[.int .i64 (x:Int)] 3);have hb3:=(G.base.new (zLr _)).chg c0 (by simp)
  have hit3:=(G.its.more (A':=M.L++ownL (.slice (some ⟨w2.heap.size,0,none⟩) 1 1)) (fun k hk=>by
   rcases List.mem_append.1 hk with hk | hk
   ·exact .inl (zal _ hk)
   ·exact .inr (Nat.le_of_eq (Option.some.inj (zml.1 hk))))).chg c0 (by simp)
  generalize w2.alloc (.cells #[.int .i64 (x:Int)] 3)=W at k0 c0 hb3 hit3 ⊢
  have ho0:W.ownsRow w2.heap.size 3 1 (.slice (some ⟨w2.heap.size,0,none⟩) ([x]:List Nat).length 1) ([x]:List Nat).length (intVs [x]):=by
   refine ⟨rfl,.inr ⟨w2.heap.size,1,_,rfl,zLr _,k0,zLr _,by unfold maxLen;decide,rfl,rfl⟩⟩
  have hs0:CoS w2.heap.size w M (.slice va items.length vc) items (.slice (some ⟨w2.heap.size,0,none⟩) 1 1) [x] W B:=⟨ho0,hb3,hit3,G.chg.trans c0,Nat.le_of_lt (zhl k0)⟩;have HS0:=zh (zA hs0 (show ∃ ht,Rts 400 1 B [x] items ht from ⟨ht,hr⟩));have HWB:=zh (show w.heap.size<=w2.heap.size from G.chg.size);have HLI:=zh (show items.length<=60 from G.len);obtain ⟨m,hmin⟩:∃ m:Nat,min ((n2:Nat):Int) 30=(m:Int):=⟨(min ((n2:Nat):Int) 30).toNat,by omega⟩;have hmm:m<=30/\m<=n2:=by omega
  clear G hr h0 k0 c0 hb3 hit3 ho0 hs0;go_upto_region 6 with fail;clear hmin;go_loopg [9,44] m (fun gg s9 s44 wr=>∃ i:Nat,gg=m - i/\i<=m/\s44 = .int .i64 (i:Int)/\Hid (∃ R G B,CoS w2.heap.size w M (.slice va items.length vc) items s9 R wr B/\(∃ ht,Rts 400 G B R items ht)/\R.length<=i+1/\G<=i+1))
  case atStart=>exact ⟨0,rfl,Nat.zero_le _,rfl,zh ⟨_,_,_,HS0.out.1,HS0.out.2,zLr _,zLr _⟩⟩
  case round =>
   obtain ⟨i,hgi,hi,rfl,HR⟩:=hrel;have HGI:=zh hgi;clear hgi;obtain ⟨R,G,B1,hS,hRt,hRl,hG⟩:=HR.out;obtain ⟨ua,uc,rfl,u1,u2⟩:=zos hS.own;have HS:=zh (zA hS (zA hRl (zA hG hRt)));by_cases hin:i<m
   ·have i1:(i:Int)<(m:Int):=by omega
    obtain ⟨ob,oo,hoe,hob,hoc⟩:=HZ0.out.2.2.2 i (by omega);subst hoe;obtain ⟨p0,p1,p2,hO⟩:=hoc.chg hS.chg hob (by simp);have b0:=hO.code;have b1:=hO.root;have b2:=hO.kid;obtain ⟨o,ho⟩:∃ o,o=z i:=⟨_,rfl⟩;rw [<- ho] at p0 p1 p2 b0 b1 b2;have q0:wr.cell? ⟨ob,oo+i*3,none⟩=some (.int .u8 (o.code:Int)):=p0;have crm:=hS.bs.cRoom;have hk:=znb wr (.cells #[.int .u8 (o.code:Int),.int .u8 (o.root:Int),.int .u8 (o.kid:Int)] 128);have hck:=(Chg.refl [] wr).alloc (.cells #[.int .u8 (o.code:Int),.int .u8 (o.root:Int),.int .u8 (o.kid:Int)] 128);clear hoc hO ho p0 hob hS hRl hG hRt;go_upto_region 8 with fail;have hS1:=HS.out.1.calm hck;generalize wr.alloc (.cells #[.int .u8 (o.code:Int),.int .u8 (o.root:Int),.int .u8 (o.kid:Int)] 128)=W1 at hk hck hS1 ⊢;obtain ⟨kb,hkb⟩:∃ kb,kb=wr.heap.size:=⟨_,rfl⟩;rw [<- hkb] at hk ⊢;have crm:=hS1.bs.cRoom;obtain ⟨ro,hro⟩:∃ ro,ro=B1.room:=⟨_,rfl⟩;rw [<- hro] at crm;have HS1:=zh (zA hS1 (zA hk (zA hro (zA HS.out.2.1 (zA HS.out.2.2.1 HS.out.2.2.2)))));have k0:=zcb hk 0;have k1:=zcb hk 1;have k2:=zcb hk 2;simp only [tA1,tA3,tA2] at k0 k1 k2;obtain ⟨len,hlen⟩:∃ len,len=R.length:=⟨_,rfl⟩;rw [<- hlen];have HLN:=zh hlen;have HKL:=zh (fun hm=>by have:=HS.out.1.bs.ltL hm;omega:kb∉M.L);clear q0 p1 p2 hk hck hS1 hkb hro hlen;by_cases hR0:len=0
    ·have r0:((len:Int)==0)=true:=by rw [hR0];rfl
     have HF:=zh HS1.out.1.chg;clear hR0;go_wp2_with fail;refine (awake14_at _).mono ?_;rintro e wz ⟨rfl,hZ⟩;have HZ:=zh (HF.out.trans hZ);clear hZ;go_wp2_with fail;go_ret;exact ⟨rfl,HZ.out.below (by simp)⟩
    have r0:((len:Int)==0)=false:=by rw [beq_eq_false_iff_ne];omega
    by_cases hrm:ro<12
    ·have HF:=zh HS1.out.1.chg
     go_wp2_with fail;refine crm.mono ?_;clear crm;rintro e w' ⟨rfl,rfl⟩;go_wp2_with fail;refine (awake14_at _).mono ?_;rintro e wz ⟨rfl,hZ⟩;have HZ:=zh (HF.out.trans hZ);clear hZ;go_wp2_with fail;go_ret;exact ⟨rfl,HZ.out.below (by simp)⟩
    have e1:IntKind.i64.wrap (o.root:Int)=(o.root:Int):=IntWalk.i64_in _ (by omega);have e2:Int.tmod (o.root:Int) (len:Int)=((o.root % len:Nat):Int):=by rw [Int.tmod_eq_emod_of_nonneg (by omega)];rfl
    obtain ⟨r,hr⟩:∃ r,r=o.root % len:=⟨_,rfl⟩;rw [<- hr] at e2;have hrl:r<len:=by rw [hr];exact Nat.mod_lt _ (by omega)
    have e3:Int.tmod (o.code:Int) 5=((o.code % 5:Nat):Int):=by rw [Int.tmod_eq_emod_of_nonneg (by omega)];rfl
    obtain ⟨t,ht⟩:∃ t,t=o.code % 5:=⟨_,rfl⟩;rw [<- ht] at e3;have ht5:t<5:=by rw [ht];exact Nat.mod_lt _ (by omega)
    have hl31:len<=31:=by have:=HS1.out.2.2.2.1;have:=HLN.out;omega
    clear hr ht;go_wp2_with fail;refine crm.mono ?_;clear crm;rintro e w' ⟨rfl,rfl⟩;go_upto_block 2 with fail;clear k0 e1 e2 e3;go_cut [9,13] (fun s9 s13 wx=>s13 = .int .i64 0/\Hid (∃ R' G' B',CoS w2.heap.size w M (.slice va items.length vc) items s9 R' wx B'/\(∃ ht,Rts 400 G' B' R' items ht)/\R'.length<=i+2/\G'<=i+2))
    case first =>
     have hrR:r<R.length:=by rw [<- HLN.out];exact hrl
     obtain ⟨g,c',e,g1,g2,g3,g4,g5⟩:=zol HS1.out.1.own (by omega);injection e with e _ e';subst e;subst e';have hcc:=(g5 r (by omega)).trans (intVs_get hrR);obtain ⟨ht1,hrt⟩:=HS1.out.2.2.2.2.2;obtain ⟨y,hy⟩:∃ y,y=R.getD r 0:=⟨_,rfl⟩;have hyR:y∈R:=by rw [hy,zgD,List.getElem?_eq_getElem hrR];exact List.getElem_mem _
     have hsp:=split_at hrR;rw [<- hy] at hcc hsp;obtain ⟨cy,hcy,-⟩:=hrt.top y hyR;have HRT:=zh (zA hrt (zA hyR (zA hsp hcy)));have HC:Hid (CoS w2.heap.size w M (.slice va items.length vc) items (.slice (some ⟨g,0,none⟩) len uc) R W1 B1):=zh (by have:=HS1.out.1;rw [<- HLN.out] at this;exact this);have rl:(r:Int)<(len:Int):=by omega
     clear hrt hyR hsp hcy hy g3 g5 hrR;rcases (show t=0∨t=1∨t=2∨t=3∨t=4 by omega) with rfl | rfl | rfl | rfl | rfl
     ·-- one more
      obtain ⟨u4,u5,u6⟩:=HRT.out.1.up (by rw [<- HLN.out];omega) HRT.out.2.1;have cu:=bUp_at HC.out.bs HC.out.lt (y:Int);rw [u4] at cu;have CU:=zh cu;have HU:=zh u5;clear u4 u5 u6 cu;go_wp2_with fail;refine CU.out.mono ?_;clear CU;rintro e w4 ⟨rfl,hb4,hc4⟩;have hS4:=HC.out.turn HML.out hc4 hb4;have hcc4:=(hc4.cell (p:=⟨g,r,none⟩) g4 (HC.out.not g rfl)).trans hcc;have hn6:=znb w4 (.cells #[.int .i64 (y:Int)] 3);have hc6:Chg [] w4 (w4.alloc (.cells #[.int .i64 (y:Int)] 3)):=(Chg.refl [] w4).alloc _;have ho6:=(hS4.calm hc6).own;rw [<- HLN.out] at ho6;have H6:=zh (zA ho6 (zA hn6 (zA hc6 (zA hS4 (zLt hS4.low hc6.size)))));clear hb4 hc4 hS4 hn6 hc6 ho6;go_upto_region 15 with fail;go_wp2_with (at_builtin;refine wpList_app rfl _ _ 27 rfl rfl (base:=w2.heap.size) (size:=1) (n:=len) (m:=1) (xs:=intVs R) (news:=[.int .i64 (y:Int)]) Tryz.underlying27 infoInt8 rfl (by omega) (by omega) rfl rfl H6.out.1 (AppSrc.blk H6.out.2.1 rfl (fun u hu=>by simp at hu;subst hu;rfl)) (by omega) H6.out.2.2.2.2 ?_;intro v' w7 hown7 hg7 ho7;have H7:=zh (zA hown7 (zA hg7 ho7));clear hown7 hg7 ho7);go_meet;refine ⟨rfl,zh ⟨R++[y],G,_,H6.out.2.2.2.1.grow HWB.out H6.out.2.2.1 ?_ H7.out.2.1 H7.out.2.2,⟨ht1,HU.out⟩,?_,?_⟩⟩
      ·have:=H7.out.1
       rw [intVs_one,HLN.out] at this;rw [List.length_append];exact this
      ·rw [List.length_append];have:=HS1.out.2.2.2.1;show R.length+1<=i+2;omega
      ·have:=HS1.out.2.2.2.2.1;omega
     ·-- one is owned
      have co:=own14_at HC.out.bs HC.out.lt HRT.out.1.gr (by omega) (fun b=>by have:=pendL_le R b;have:=HLN.out;omega) HRT.out.2.2.2 (pendL_pos HRT.out.2.1) (by rw [<- HS1.out.2.2.1];omega);have CO:=zh co;clear co;go_wp2_with fail;refine CO.out.mono ?_;clear CO;rintro e w4 ⟨y2,rfl,d,B2,ht2,hd,hb4,ho,hc4⟩;have hS4:=HC.out.turn HML.out hc4 hb4;have hcc4:=(hc4.cell (p:=⟨g,r,none⟩) g4 (HC.out.not g rfl)).trans hcc;have hfz:w4.frozen? ⟨g,r,none⟩=false:=CoS.cell (c:=uc) (by have:=hS4;rw [HLN.out] at this;exact this) (by rw [<- HLN.out];omega)
      have hmv:Rts 400 G B2 (R.set r y2) items ht2:=by
       have hrR:r<R.length:=by rw [<- HLN.out];exact hrl
       have h1:=HRT.out.1;rw [HRT.out.2.2.1] at h1;rw [set_split y2 hrR];exact h1.move (by rw [<- HRT.out.2.2.1];exact ho.gr) HRT.out.2.2.2 ho.top ho.same (by rw [<- HRT.out.2.2.1];exact ho.kp)
      have H4:=zh (zA hS4 hmv);clear hd hb4 ho hc4 hS4 hmv;go_wp2_with fail;go_meet;have hrR:r<R.length:=by rw [<- HLN.out];exact hrl
      have hP:=CoS.put (c:=uc) (y:=y2) (by have:=H4.out.1;rw [HLN.out] at this;exact this) HWB.out hrR;rw [List.length_set,<- HLN.out] at hP;exact ⟨rfl,zh ⟨R.set r y2,G,_,hP,⟨ht2,H4.out.2⟩,by rw [List.length_set];have:=HS1.out.2.2.2.1;omega,by have:=HS1.out.2.2.2.2.1;omega⟩⟩
     ·-- a path
      obtain ⟨cc1,hkd⟩:∃ kd:Nat,kd=o.kid:=⟨_,rfl⟩;rw [<- hkd] at k2;have hk255:cc1<=255:=by rw [hkd];omega
      have kk:kb<W1.heap.size:=zhl HS1.out.2.1;have hcy8:=HRT.out.1.low _ _ HRT.out.2.2.2;have HC1:Hid (CoS w2.heap.size w M (.slice va items.length vc) items (.slice (some ⟨g,0,none⟩) len uc) R W1.drew B1):=zh (HC.out.calm (Chg.refl [] W1).drew);have HR:=zh (show W1.drew.cell? ⟨g,r,none⟩=some (.int .i64 (y:Int))/\W1.drew.cell? ⟨kb,2,none⟩=some (.int .u8 (cc1:Int))/\g<W1.drew.heap.size/\kb<W1.drew.heap.size from ⟨hcc,k2,g4,kk⟩);have HN:=zh (show B1.room=ro from HS1.out.2.2.1.symm);clear hkd k1 kk HC hcc k2 g4;go_upto_region 19 with fail;refine wp_region_brk [14] (fun wz=>wz.cell? ⟨g,r,none⟩=some (.int .i64 (y:Int))/\wz.cell? ⟨kb,2,none⟩=some (.int .u8 (cc1:Int))) (by kernel_rfl) (by exact ⟨HR.out.1,HR.out.2.1⟩) (fun hHeld=>?_);generalize W1.drew=W3 at HC1 HR hHeld ⊢;have cp:=path_all cy (l:=0) HC1.out.bs HC1.out.lt HRT.out.1.gr (by omega) (fun b=>by have:=pendL_le R b;have:=HLN.out;omega) HRT.out.2.2.2 (by omega) (pendL_pos HRT.out.2.1) (by rw [HN.out];omega) hk255;rw [show (((0:Nat)):Int)=0 from rfl] at cp;have CP:=zh cp;clear cp;refine wbP 0 fun hHeld=>?_;try simp only [Act.put,sA1,sA2,sA3]
      refine wbP 1 fun hHeld=>?_;try simp only [Act.put,sA1,sA2,sA3]
      refine wbP 2 fun hHeld=>?_;try simp only [Act.put,sA1,sA2,sA3]
      refine wbP 3 fun hHeld=>?_;try simp only [Act.put,sA1,sA2,sA3]
      refine wbP 4 fun hHeld=>?_;try simp only [Act.put,sA1,sA2,sA3]
      refine wbP 5 fun hHeld=>?_;try simp only [Act.put,sA1,sA2,sA3]
      refine wbL 6 (fun hHeld=>?_) (hy:=by intro w hSw;obtain ⟨q1,q2⟩:=hSw;go_simp;first | done | with_reducible rfl);try simp only [Act.put,sA1,sA2,sA3]
      refine wbP 7 fun hHeld=>?_;try simp only [Act.put,sA1,sA2,sA3]
      refine wbL 8 (fun hHeld=>?_) (hy:=by intro w hSw;obtain ⟨q1,q2⟩:=hSw;go_simp;first | done | with_reducible rfl);try simp only [Act.put,sA1,sA2,sA3]
      refine wbE 9 (fun K hK=>?_)
      (go_simp;refine CP.out.mono ?_;clear CP;rintro e w4 ⟨y2,rfl,B2,ht2,hb4,ho,hc4⟩;have hS4:=HC1.out.turn HML.out hc4 hb4;have hcc4:=(hc4.cell (p:=⟨g,r,none⟩) HR.out.2.2.1 (HC1.out.not g rfl)).trans HR.out.1;have hfz:w4.frozen? ⟨g,r,none⟩=false:=CoS.cell (c:=uc) (by have:=hS4;rw [HLN.out] at this;exact this) (by rw [<- HLN.out];omega);have hkk4:=(hc4.cell (p:=⟨kb,2,none⟩) HR.out.2.2.2 HKL.out).trans HR.out.2.1;have H4:=zh (zA hS4 ho);clear hb4 ho hc4 hS4;go_simp)
      refine hK.out _ _ (fun _ _=>⟨hcc4,hkk4⟩) (fun hHeld=>?_);clear hK K;try simp only [Act.put,sA1,sA2,sA3]
      refine wbP 10 fun hHeld=>?_;try simp only [Act.put,sA1,sA2,sA3]
      refine wbP 11 fun hHeld=>?_;try simp only [Act.put,sA1,sA2,sA3]
      refine wbP 12 fun hHeld=>?_;try simp only [Act.put,sA1,sA2,sA3]
      refine wbP 13 fun hHeld=>?_;try simp only [Act.put,sA1,sA2,sA3]
      refine wbE 14 (fun K hK=>?_)
      (go_simp)
      refine hK.out _ _ (fun h=>absurd h (by decide)) (fun hHeld=>?_);clear hK K;try simp only [Act.put,sA1,sA2,sA3]
      refine wbP 15 fun hHeld=>?_;try simp only [Act.put,sA1,sA2,sA3]
      refine wpAnyB_done (by kernel_rfl) ?_ _;go_wp2_with fail;go_meet;have hrR:r<R.length:=by rw [<- HLN.out];exact hrl
      have hmv:Rts 400 G B2 (R.set r y2) items ht2:=by
       have h1:=HRT.out.1;rw [HRT.out.2.2.1] at h1;rw [set_split y2 hrR];have ho:=H4.out.2;exact h1.move (by rw [<- HRT.out.2.2.1];exact ho.gr) HRT.out.2.2.2 ho.top ho.same (by rw [<- HRT.out.2.2.1];exact ho.kp)
      have hP:=CoS.put (c:=uc) (y:=y2) (by have:=H4.out.1;rw [HLN.out] at this;exact this) HWB.out hrR;rw [List.length_set,<- HLN.out] at hP;exact ⟨rfl,zh ⟨R.set r y2,G,_,hP,⟨ht2,hmv⟩,by rw [List.length_set];have:=HS1.out.2.2.2.1;omega,by have:=HS1.out.2.2.2.2.1;omega⟩⟩
     ·-- one is let go
      have hcy8:=HRT.out.1.low _ _ HRT.out.2.2.2;have HC1:Hid (CoS w2.heap.size w M (.slice va items.length vc) items (.slice (some ⟨g,0,none⟩) len uc) R W1.drew B1):=zh (HC.out.calm (Chg.refl [] W1).drew);have HR:=zh (show W1.drew.cell? ⟨g,r,none⟩=some (.int .i64 (y:Int))/\g<W1.drew.heap.size from ⟨hcc,g4⟩);clear k1 k2 HC hcc g4;go_upto_region 21 with fail;refine wp_region_held_drew (S:=fun wz=>wz.cell? ⟨g,r,none⟩=some (.int .i64 (y:Int))) (by kernel_rfl) (by exact HR.out.1) (fun hHeld=>?_);generalize W1.drew=W3 at HC1 HR hHeld ⊢;have clt:=zh (owLet_at W3 M (fun q hq=>HC1.out.bs.ltL hq));refine wV 0 ?_ (hy:=by intro w q1;go_simp;first | done | with_reducible rfl);refine wV 1 ?_ (hy:=by intro w q1;go_simp;first | done | with_reducible rfl);refine wV 2 ?_ (hy:=by intro w q1;go_simp;first | done | with_reducible rfl);refine wV 3 ?_ (hy:=by intro w q1;go_simp;first | done | with_reducible rfl);refine wV 4 ?_ (hy:=by intro w q1;go_simp;first | done | with_reducible rfl);refine wV 5 ?_ (hy:=by intro w q1;go_simp;first | done | with_reducible rfl);try simp only [Act.put,sA1,sA2,sA3]
      refine wE 6 (fun K hK=>?_)
      (go_simp;refine clt.out.mono ?_;clear clt;rintro e w4 ⟨bx,rfl,hbx,hc4⟩;have HS4:=zh (HC1.out.calm hc4);have hcc4:=(hc4.cell (p:=⟨g,r,none⟩) HR.out.2 (by simp)).trans HR.out.1;have HG4:=zh (zLl HR.out.2 hc4.size);have HBX:=zh hbx;clear hbx hc4;go_simp)
      refine hK.out _ _ (hcc4) (fun hHeld=>?_);clear hK K;try simp only [Act.put,sA1,sA2,sA3]
      have cd:=owDrop_at (x:=y) (k:=cy) (bx:=bx) ⟨HS4.out.bs,HS4.out.lt,HRT.out.1.gr,by omega,HRT.out.2.2.2,pendL_pos HRT.out.2.1,by omega,HBX.out⟩;have CD:=zh cd;clear cd;refine wE 7 (fun K hK=>?_)
      (go_simp;refine CD.out.mono ?_;clear CD;rintro e w5 ⟨rfl,B2,ht2,hb5,hl5,hc5,-⟩;have HS5:=zh (HS4.out.turn HML.out hc5 hb5);have hcc5:=(hc5.cell (p:=⟨g,r,none⟩) HG4.out (HS4.out.not g rfl)).trans hcc4;have HL5:=zh hl5;clear hb5 hl5 hc5;go_simp)
      refine hK.out _ _ (hcc5) (fun hHeld=>?_);clear hK K;try simp only [Act.put,sA1,sA2,sA3]
      refine wV 8 ?_ (hy:=by intro w q1;go_simp;first | done | with_reducible rfl);try simp only [Act.put,sA1,sA2,sA3]
      refine wpAnyH_done (by kernel_rfl) ?_ _;have hru:r<=uc:=by have:=HLN.out;omega
      have r1e:IntKind.i64.wrap ((r:Int)+1)=(r:Int)+1:=IntWalk.i64_in _ (by omega);have hrz:0<=(r:Int)+1/\(r:Int)+1<=(len:Int):=by omega
      obtain ⟨pa,hpa⟩:∃ pa:Option Addr,(if uc=r+1 then some ⟨g,0,none⟩ else some ⟨g,r+1,none⟩)=pa:=⟨_,rfl⟩;clear hcc4 hcc5;have HS6:=zh (HS5.out.calm (Chg.refl [] w5).drew);go_upto_region 22 with fail;refine wp_region_held_drew (S:=fun wz=>True) (by kernel_rfl) (by trivial) (fun hHeld=>?_);generalize w5.drew=w6 at HS6 hHeld ⊢;refine wV 1 ?_ (hy:=by intro w _;go_simp;first | done | with_reducible rfl);refine wV 2 ?_ (hy:=by intro w _;go_simp;first | done | with_reducible rfl);refine wV 3 ?_ (hy:=by intro w _;go_simp;first | done | with_reducible rfl);refine wV 5 ?_ (hy:=by intro w _;go_simp;first | done | with_reducible rfl);refine wV 6 ?_ (hy:=by intro w _;go_simp;first | done | with_reducible rfl);refine wV 7 ?_ (hy:=by intro w _;go_simp;first | done | with_reducible rfl);refine wV 8 ?_ (hy:=by intro w _;go_simp;first | done | with_reducible rfl);try simp only [Act.put,sA1,sA2,sA3]
      refine wE 0 (fun K hK=>?_)
      (go_simp;have HE:=zh (zA (znb w6 (.cells #[] 3)) ((Chg.refl [] w6).alloc (.cells #[] 3)));generalize w6.alloc (.cells #[] 3)=w7 at HE ⊢)
      refine hK.out _ _ ?_ (fun hHeld=>?_)
      ·trivial
      clear hK K;try simp only [Act.put,sA1,sA2,sA3]
      have HOW:=zh (show w6.ownsRow w2.heap.size 3 1 (.slice (some ⟨g,0,none⟩) R.length uc) R.length (intVs R) by have:=HS6.out.own;rw [HLN.out] at this;exact this);have HT:=zh ((srcI_take (k:=uc) (j:=r) HOW.out (by rw [<- HLN.out];omega)).chg HE.out.2 (by simp));have HD:=zh ((srcI_drop (j:=r+1) HOW.out (by rw [<- HLN.out];omega) hpa.symm).chg HE.out.2 (by simp));rw [<- HLN.out] at HD;refine wE 4 (fun K hK=>?_)
      (refine step_app rfl (.tmp 122) (.tmp 125) 27 rfl rfl (base:=w6.heap.size) (size:=1) (n:=0) (m:=r) (xs:=[]) (news:=intVs (R.take r)) Tryz.underlying27 infoInt8 rfl (by omega) (by omega) (by simp [Act.eval,Act.put]) (by simp [Act.eval,Act.put]) (own_zero HE.out.1 (zLr _)) HT.out (by omega) HE.out.2.size ?_;intro z8 w8 hown hgr _;rw [Nat.zero_add,List.nil_append] at hown;have H8:=zh (zA hown (HE.out.2.grew (own_zero (size:=1) HE.out.1 (zLr _)) hgr));have HD8:=zh (HD.out.chg ((Chg.refl _ w7).grown hgr (fun q hq => .inl (zml.2 hq))) (fun q hq hm=>by have h1:w6.heap.size=q:=Option.some.inj (zml.1 hm);have h2:=(HOW.out.lt g rfl).2;rw [<- hpa] at hq;split at hq <;> (have e:g=q:=Option.some.inj hq;omega)));clear hown hgr)
      refine hK.out _ _ ?_ (fun hHeld=>?_)
      ·trivial
      clear hK K;try simp only [Act.put,sA1,sA2,sA3]
      refine wE 9 (fun K hK=>?_)
      (refine step_app rfl (.tmp 126) (.tmp 130) 27 rfl rfl (base:=w6.heap.size) (size:=1) (n:=r) (m:=len - (r+1)) (xs:=intVs (R.take r)) (news:=intVs (R.drop (r+1))) Tryz.underlying27 infoInt8 rfl (by omega) (by omega) (by simp [Act.eval,Act.put]) (by simp [Act.eval,Act.put]) H8.out.1 HD8.out (by omega) H8.out.2.size ?_;intro z9 w9 hown hgr _;have H9:=zh (zA hown (H8.out.2.grew H8.out.1 hgr));clear hown hgr)
      refine hK.out _ _ ?_ (fun hHeld=>?_)
      ·trivial
      clear hK K;try simp only [Act.put,sA1,sA2,sA3]
      refine wV 10 ?_ (hy:=by intro w _;go_simp;first | done | with_reducible rfl);try simp only [Act.put,sA1,sA2,sA3]
      refine wpAnyH_done (by kernel_rfl) ?_ _;go_wp2_with fail;go_meet;have hrt:=HRT.out.1;have hl5:=HL5.out;rw [HRT.out.2.2.1] at hrt hl5;have hle:(R.take r++R.drop (r+1)).length=r+(len - (r+1)):=by rw [List.length_append,List.length_take,List.length_drop,<- HLN.out];omega
      have hown:=H9.out.1;rw [<- hle,show intVs (R.take r)++intVs (R.drop (r+1))=intVs (R.take r++R.drop (r+1)) by unfold intVs;rw [List.map_append]] at hown;exact ⟨rfl,zh ⟨R.take r++R.drop (r+1),G,_,HS6.out.fresh H9.out.2 hown,⟨ht2,hrt.less hl5⟩,by rw [hle];have:=HS1.out.2.2.2.1;have:=HLN.out;omega,by have:=HS1.out.2.2.2.2.1;omega⟩⟩
     ·-- a commit
      have hgd:=HRT.out.1.gr.good;have hG31:=HS1.out.2.2.2.2.1;have cm:=hgd.commit_ (by omega);have cc:=bCommit_any HC.out.bs HC.out.lt hgd (by omega);have CC:=zh cc;have HK:=zh (HRT.out.1.commit cm);clear cc cm hgd;go_wp2_with fail;refine CC.out.mono ?_;clear CC;rintro e w4 ⟨rfl,hb4,hc4⟩;have HS4:=zh (HC.out.turn HML.out hc4 hb4);clear hb4 hc4;go_wp2_with fail;go_meet;exact ⟨rfl,zh ⟨R,G+1,_,HS4.out,⟨ht1,HK.out⟩,by have:=HS1.out.2.2.2.1;omega,by omega⟩⟩
    case rest =>
     obtain ⟨rfl,hcut⟩:=hcut;obtain ⟨R2,G2,B2,hS2,⟨ht2,hrt2⟩,hRl2,hG2⟩:=hcut.out;obtain ⟨ua2,uc2,rfl,v1,v2⟩:=zos hS2.own;obtain ⟨n,hn'⟩:∃ n,n=R2.length:=⟨_,rfl⟩;have cct:=counted_at (vo := .map none) (oth:=fun _=>0) hS2.bs (hrt2.ctI (by omega) (by omega)) (SlI.of_own hS2.own) (fun w' _ b hb=>nil_look w' (WalkArith.wf_i64 (by omega)));have HS2:=zh hS2;have HR2:=zh (zA hrt2 (zA hRl2 hG2));have HNN:=zh hn';have hn32:n<=32:=by omega
     rw [<- hn'] at cct v1 ⊢;have CCT:=zh cct;clear cct hS2 hrt2 hRl2 hG2 hcut hn';go_wp2_with fail;refine CCT.out.mono ?_;clear CCT;rintro e wg ⟨rfl,hcg⟩;have HS3:=zh (HS2.out.calm hcg);rw [<- HNN.out] at HS3;clear hcg;go_upto_region 26 with fail;obtain ⟨w0r,rfl⟩:∃ w0r,w0r=wr:=⟨_,rfl⟩;clear HR HS crm k1 k2 HS1 r0 HS2 hrl;go_loopg [142] n (fun gg s142 wr=>∃ j:Nat,gg=n - j/\j<=n/\s142 = .int .i64 (j:Int)/\Hid (CoS w2.heap.size w M (.slice va items.length vc) items (.slice ua2 n uc2) R2 wr B2))
     case atStart=>exact ⟨0,rfl,Nat.zero_le _,rfl,HS3⟩
     case round =>
      obtain ⟨j,hgj,hj,rfl,HJ⟩:=hrel;have HGJ:=zh hgj;clear hgj;by_cases hjn:j<n
      ·have i2:(j:Int)<(n:Int):=by omega
       have hjR:j<R2.length:=by rw [<- HNN.out];exact hjn
       obtain ⟨g,c',e,g1,g2,g3,g4,g5⟩:=zol HJ.out.own (by omega);injection e with e e2 e';clear e2;subst e;subst e';have hcc:=(g5 j (by omega)).trans (intVs_get hjR);obtain ⟨y,hy⟩:∃ y,y=R2.getD j 0:=⟨_,rfl⟩;have hyR:y∈R2:=by rw [hy,zgD,List.getElem?_eq_getElem hjR];exact List.getElem_mem _
       rw [<- hy] at hcc;obtain ⟨cy,hcy,T⟩:=HR2.out.1.top y hyR;have hy4:=(HR2.out.1.gr.lt hcy).1;have hcy8:=HR2.out.1.low _ _ hcy;have ok:=HR2.out.1.gr.good.ok;have cW:=fdWalk_at HJ.out.bs (y:=(y:Int)) (lo:=0) (hi:=18446744073709551615) (most:=1000) (by omega) (by omega) (by omega) (.inr (by omega)) (T.walkAll ok hcy8 HJ.out.its.u (by have:=HLI.out;omega) (by omega));rw [show (((0:Nat)):Int)=0 from rfl,show (((18446744073709551615:Nat)):Int)=18446744073709551615 from rfl] at cW;have CW:=zh cW;have HT:=zh (zA (T.rightT ok hcy8) hy4);clear cW g1 g2 g3 g4 g5 hjR hy hyR hcy T hy4 hcy8 ok;go_wp2_with fail;refine CW.out.mono ?_;clear CW;rintro e w6 ⟨v6,rfl,hown6,hc6⟩;obtain ⟨s6,t6,rfl,_,_⟩:=zos hown6;have hJ6:=HJ.out.calm hc6;have cS:=same13_at (A:=[]) (ItemsIn.of_own hown6 hJ6.its.u (fun _ _=>by simp)) hJ6.its (by have:=HLI.out;omega);rw [decide_eq_true rfl] at cS;have CS:=zh cS;have HJ6:=zh hJ6;clear cS hJ6 hown6 hc6;go_wp2_with fail;refine CS.out.mono ?_;clear CS;rintro e w7 ⟨rfl,hc7⟩;have hJ7:=HJ6.out.calm hc7;have cR:=fdRight_at hJ7.bs (y:Int) (WalkArith.wf_i64 (by have:=HT.out.2;omega));rw [HT.out.1] at cR;have CR:=zh cR;have HJ7:=zh hJ7;clear cR hJ7 hc7;go_wp2_with fail;refine CR.out.mono ?_;clear CR;rintro e w8 ⟨rfl,hc8⟩;have HJ8:=zh (HJ7.out.calm hc8);clear hc8;go_wp2_with fail;go_roundg (n - (j+1))
       case measure=>have:=HGJ.out;omega
       case rel=>exact ⟨j+1,rfl,hjn,by go_num,HJ8⟩
      ·obtain rfl:j=n:=by omega
       have i2:¬ (j:Int)<(j:Int):=by omega
       have HF:=zh (zA HJ.out HR2.out);clear HJ HR2 HS3;go_wp2_with fail;go_roundg (m - (i+1))
       case measure=>have:=HGI.out;omega
       case rel=>exact ⟨i+1,rfl,hin,by go_num,zh ⟨R2,G2,B2,by have:=HF.out.1;exact this,⟨ht2,HF.out.2.1⟩,HF.out.2.2.1,HF.out.2.2.2⟩⟩
   ·have i1:¬ (i:Int)<(m:Int):=by omega
    have HF:=zh hS.chg;clear hS hRl hG hRt;go_wp2_with fail;refine (awake14_at _).mono ?_;rintro e wz ⟨rfl,hZ⟩;have HZ:=zh (HF.out.trans hZ);clear hZ;go_wp2_with fail;go_ret;exact ⟨rfl,HZ.out.below (by simp)⟩
end Go.Proofs.YtkhcaclndepgbaaGreat
namespace Go.Proofs.YtkhcaclndepgbaaGreat.ownCounts
open Go.ChangeShapes Go.WideShapes Go.ChangeAt Go.RowKit
open Go.ChangeMaps (open_string shut_string)
theorem own:ownKnob Tryz.prog.godebug=none:=by kernel_rfl
theorem laidOut:laidOutB Tryz.prog=true:=by kernel_rfl
theorem lifted (os:Os) (started:os.Started) (H:Type) (enc:TypeId × Value->H) :
  ReturnsInHanded {} Tryz.checked os 14 .any (Rows.ownCountsSpec.pre6 enc Tryz.prog Tryz.f14 Rows.ownCountsRow.domain false) (Rows.ownCountsSpec.post enc Tryz.prog Tryz.f14 false true false false):=by
 refine returnsInHanded_of_change (C:=Tryz.checked) own started (by kernel_rfl) Tryz.func14
  (ChangeSpec.witness6 (enc:=enc) (C:=Tryz.checked) false ⟨#[],#[.slice none 0 0,.slice none 0 0],[]⟩ 8 (by kernel_rfl) (by kernel_rfl) (by kernel_rfl) (by kernel_rfl)) ?_
 intro W base args ds gs before hval0 hW hcnd _;have hval:∀ (j:Nat) t v,Tryz.f14.params[j]?=some t->args[j]?=some v->Value.okWide Tryz.prog W .any base t v:=hval0;have hW':=hW;obtain ⟨p,q,hA0,hV,rfl,hfz,hnd⟩:=hW;have hA:DataW.TrodAll enc Tryz.prog W 0 (fun _=>true) true Tryz.f14.params.toList args.toList ds p:=hA0;rw [Tryz.params14] at hA hval;obtain ⟨v0,vr0,d0,ds0,p0,q0,hargs,rfl,rfl,h0,r0⟩:=trodAll_cons hA;obtain ⟨v1,vr1,d1,ds1,p1,q1,rfl,rfl,rfl,h1,r1⟩:=trodAll_cons r0;obtain ⟨rfl,rfl,rfl⟩:=trodAll_nil r1;obtain rfl:args=#[v0,v1]:=by cases args;simp_all
 obtain ⟨rfl,rfl⟩:=trodVars_none hV;obtain ⟨a0,len0,cap0,rfl⟩:=okWide_slice Tryz.underlying113 (hval 0 113 v0 rfl rfl);have k0:=h0;have lt0:∀ x∈p0,x.block<W.heap.size:=by obtain ⟨m,hm⟩:=k0;exact DataW.trod_lt m _ _ _ hm
 obtain ⟨z0,w0⟩:=open_its8 h0;obtain ⟨a1,len1,cap1,rfl⟩:=okWide_slice Tryz.underlying126 (hval 1 126 v1 rfl rfl);have k1:=h1;have lt1:∀ x∈p1,x.block<W.heap.size:=by obtain ⟨m,hm⟩:=k1;exact DataW.trod_lt m _ _ _ hm
 obtain ⟨z1,w1⟩:=open_op14 h1;clear hA0 hval0;refine (ownCounts_walk a0 len0 cap0 z0 a1 len1 cap1 z1 W w0 w1).mono fun e W' ⟨he,bel⟩=>?_;subst he;exact ⟨_,rfl,_,_,_,[],_,[],hW',trodAll_mk1 (shut_bool Tryz.underlying4 _),(trodAll_cons_mk (Below.trod laidOut (by kernel_rfl) (of_decide_eq_true (by kernel_rfl)) k0 bel lt0) (trodAll_cons_mk (Below.trod laidOut (by kernel_rfl) (of_decide_eq_true (by kernel_rfl)) k1 bel lt1) trodAll_mk0)),rfl,bel.frame _,fun h=>by cases h⟩
end Go.Proofs.YtkhcaclndepgbaaGreat.ownCounts
