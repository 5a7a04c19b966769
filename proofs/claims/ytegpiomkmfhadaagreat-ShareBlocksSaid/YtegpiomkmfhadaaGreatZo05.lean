/- Package super: Encode. · Package super: -/
import Derived.Test.YtegpiomkmfhadaaGreatZo04
set_option linter.all false
set_option maxRecDepth 100000
set_option maxHeartbeats 20000000
namespace Go.Proofs.YtegpiomkmfhadaaGreat
open Go.RowKit Go.Shelf
attribute [local go_sem] Oper.semAt_some
variable {S:xj} {F:Fence} {m k o:Nat} {ops:Array Oper} {rest:List Oper} {op:Oper} {a:Act} {w:World} {Q:Exit->Act->World->Prop}
theorem xj.Ok.wf (h:S.Ok):S.Wf:=⟨fun k hk=>h.val hk⟩
theorem xj.cell_one (S:xj) (i:Nat):(S.cellV i).oneCell'=true:=by
 unfold xj.cellV
 repeat' split
 all_goals rfl
theorem xj.row_size (S:xj):S.row.size=18:=ZT _ _
theorem mz {S':xj} (h:S'.row=S.row):∀ k,k<18->S'.valS k=S.valS k:=fun k hk=>by
 have e:=congrArg (fun r:Array Value=>r[k]?) h;simp only [xj.row] at e;rw [Qn hk,Qn hk,Yi _ hk,Yi _ hk] at e;injection e with e;unfold n8 at e
 split at e
 ·injection e with _ e;omega
 ·split at e
  ·injection e with _ e;omega
  ·injection e with _ e;omega
theorem dJ (k B0 ib:Nat):(Jm k B0 ib).oneCell'=true:=by
 unfold Jm
 repeat' split
 all_goals rfl
theorem dK {a b:Int} {fv:Value} (h:fv.oneCell'=true):(#[Value.int .i64 a,.int .u64 b,fv].all (·.oneCell'))=true:=by
 rw [Array.all_eq_true_iff_forall_mem];intro x hx;simp only [List.mem_toArray,ya,yk,or_false] at hx;rcases hx with rfl | rfl | rfl
 ·rfl
 ·rfl
 ·exact h
theorem dL:(Tryz.prog.info? 255).map (·.size)=some 3:=zab
theorem Yv:(Tryz.prog.info? 56).map (·.size)=some 18:=zab
theorem XL (Eg:op.guard=none) (x:Operand) (ho:op.op = .load 56 x)
  (hx:a.eval x = .pointer (some ⟨k,o,none⟩)) (hS:∀ j,j<18->w.cell? ⟨k,o+j,none⟩=some (S.cellV j)) (h:wpListIn F m Tryz.prog ops Q rest (a.put op.dst (.agg S.row)) w):wpListIn F m Tryz.prog ops Q (op::rest) a w :=
 Qx Eg x ho Tryz.underlying56 rfl Yv hx hS h
theorem YZ (Eg:op.guard=none) (x:Operand) (ho:op.op = .load 56 x)
  (hx:a.eval x = .pointer (some ⟨k,o,none⟩)) (hS:∀ j,j<18->w.cell? ⟨k,o+j,none⟩=some (S.cellV j)) (h:wpList Tryz.prog ops Q rest (a.put op.dst (.agg S.row)) w):wpList Tryz.prog ops Q (op::rest) a w :=
 J1 Eg x ho Tryz.underlying56 rfl Yv hx hS h
theorem YF (V:Nat->Value) (S:xj):zK 18 (laid V S.cellV 0 18)=S.row:=by
 apply yM;intro i;by_cases hi:i<18
 ·rw [Qn hi,xj.row,Qn hi]
  unfold laid;rw [if_pos ⟨yg _,zo⟩,Nat.sub_zero]
 ·rw [yo zaj,yo (by rw [xj.row_size];omega)]
theorem QB (hS:∀ j,j<18->w.cell? ⟨k,o+j,none⟩=some (S.cellV j)):(loadVar 56 ⟨k,o,none⟩).run Tryz.prog w = .ok (.agg S.row) w:=by
 have hr:=run_loadVar_mid (P:=Tryz.prog) w k o 56 S.row.toList _ (fun j v hv=>by
  have hj:j<18:=by
   by_cases hj:j<18
   ·exact hj
   ·rw [yB,yo (by rw [xj.row_size];omega)] at hv;cases hv
  rw [yB,xj.row,Qn hj] at hv;rw [<- yj hv];exact hS j hj) Tryz.underlying56 rfl (by rw [Yv,Array.length_toList,xj.row_size])
 rw [Array.toArray_toList] at hr;exact hr
theorem JK (x:Operand) (ho:op.op = .load 56 x) (hw:Region.wanted op (yielded ops a.tmps)=true)
  (hx:a.eval x = .pointer (some ⟨k,o,none⟩)) (hS:∀ j,j<18->w.cell? ⟨k,o+j,none⟩=some (S.cellV j)) (h:wpListIn F m Tryz.prog ops Q rest (a.put op.dst (.agg S.row)) w):wpListIn F m Tryz.prog ops Q (op::rest) a w:=by
 unfold wpListIn;rw [if_pos hw]
 have hr:=run_loadAt_mid (P:=Tryz.prog) w k o 56 S.row.toList _ (fun j v hv=>by
  have hj:j<18:=by
   by_cases hj:j<18
   ·exact hj
   ·rw [yB,yo (by rw [xj.row_size];omega)] at hv;cases hv
  rw [yB,xj.row,Qn hj] at hv;rw [<- yj hv];exact hS j hj) Tryz.underlying56 rfl (by rw [Yv,Array.length_toList,xj.row_size])
 rw [Array.toArray_toList] at hr;unfold Oper.wpIn;refine ⟨?_,?_⟩
 ·simp [Oper.about,ho]
 ·rw [Oper.semAt_plain F _ _ (by rw [ho];intro c G7;cases G7)]
  unfold execOp;simp only [ho,hx,Sem.run_bind,hr,Result.andThen];exact h
theorem xj.cells {b:Nat} {t:TypeId} (h:w.heap[b]?=some (.cells S.row t (0,0))):∀ j,j<18->w.cell? ⟨b,0+j,none⟩=some (S.cellV j):=fun j hj=>by rw [yn];exact xj.cell h hj
theorem il (Dm:S.Ok) :
  zC 90 #[.agg S.row] w fun e w'=>∃ g,e = .returned (.tuple #[zS g 128 128,.int .i64 0])/\w'.heap[g]?=some (.cells (Y7 128 (Y8 S)) 5 (0,0))/\w.heap.size<=g/\zv [] w w':=by
 refine (callsIn_wide (n:=8)).1 ?_;refine callsIn_of_wp_marks Tryz.func90 rfl trivial ?_ rfl;simp only [Tryz.ntmps90,List.size_toArray,yu,List.length_nil,Nat.reduceAdd,Nat.reduceSub,Array.replicate_succ,Array.replicate_zero,List.push_toArray,yE,yy,yK];have hx:=xo w (.cells S.row 56);have hc:=(zv.refl [] w).alloc (.cells S.row 56);have cR:=aK (w:=w.alloc (.cells S.row 56)) Dm;have HX:=zh (zA hx hc);have CR:=zh cR;generalize hW:w.alloc (.cells S.row 56)=W at *;have HW:=zh hW;clear hx hc cR
 gi_wp2_with (refine XL (S:=S) rfl (.tmp 1) (k:=w.heap.size) (o:=0) rfl zag (xj.cells HX.1) ?_)
 refine ⟨trivial,(callsIn_wide.2 CR).mono ?_⟩;rintro e w' ⟨rfl,rfl⟩
 have EA:(Instr.makeSlice 81 (.int .i64 123) (.int .i64 123)).run Tryz.prog (W.alloc (.cells S.row 56)) = .ok (zS ((W.alloc (.cells S.row 56)).heap.size) 123 123) ((W.alloc (.cells S.row 56)).alloc (.cells (Y7 123 (fun _=>0)) 5)):=by
  have:=xW (P:=Tryz.prog) 81 5 Tryz.underlying81 X7 rfl .i64 .i64 123 zo zo (W.alloc (.cells S.row 56));rw [ZW] at this;exact this
 rw [zD] at EA
 gi_wp2
 obtain ⟨W3,FC⟩:=zE (((W.alloc (.cells S.row 56)).alloc (.cells (Y7 123 fun _=>0) 5)).alloc (.cells #[zS (W.heap.size+1) 123 123] 81));have M8:zv [] w W:=HX.2;have Ci:zv [] W W3:=by rw [FC];exact (((zv.refl [] W).alloc _).alloc _).alloc _
 have kb:W3.heap[W.heap.size+1]?=some (.cells (Y7 123 fun _=>0) 5 (0,0)):=by
  rw [FC];have:=kC (W.alloc (.cells S.row 56)) (.cells (Y7 123 fun _=>0) 5) (.cells #[zS (W.heap.size+1) 123 123] 81);rw [zD] at this;exact this
 have kc:W3.heap[W.heap.size+2]?=some (.cells #[zS (W.heap.size+1) 123 123] 81 (0,0)):=by
  rw [FC];have:=cZ (W.alloc (.cells S.row 56)) (.cells (Y7 123 fun _=>0) 5) (.cells #[zS (W.heap.size+1) 123 123] 81);rw [zD] at this;exact this
 have ks:W3.heap[w.heap.size]?=some (.cells S.row 56 (0,0)):=(Ci.block w.heap.size (zz HX.1) zaa).trans HX.1;have Hj:W3.heap.size=W.heap.size+3:=by rw [FC];simp
 have PN:W.heap.size=w.heap.size+1:=by rw [<- hW];simp
 rw [<- FC];clear FC EA;refine ⟨trivial,(callsIn_wide.2 (OA (w:=W3) (sb:=w.heap.size))).mono ?_⟩;rintro e w' ⟨rfl,rfl⟩;have Cd:zv [] W3 (W3.alloc (.cells #[zP w.heap.size] 252)):=(zv.refl _ _).alloc _;have kp:=xo W3 (.cells #[zP w.heap.size] 252);have kb4:=Cd.kp kb;have kc4:=Cd.kp kc;have ks4:=Cd.kp ks;have SZ:(W3.alloc (.cells #[zP w.heap.size] 252)).heap.size=W3.heap.size+1:=zaa
 generalize W3.alloc (.cells #[zP w.heap.size] 252)=W4 at *;obtain ⟨sb,D8⟩:=zE w.heap.size;obtain ⟨bb,EB⟩:=zE (W.heap.size+1);obtain ⟨cb,Cn⟩:=zE (W.heap.size+2);obtain ⟨pb,ME⟩:=zE W3.heap.size;rw [<- D8] at ks4;rw [<- EB] at kb4 kc4;rw [<- Cn] at kc4;rw [<- ME] at kp;rw [<- D8] at kp;have it:=Jn 7 pb sb [bb] W4 ((zM kp 0).trans rfl) zae (zz ks4) zo (by intro x hx;simp only [zms] at hx;subst hx;exact zz kb4);have hs5:∀ k,k<18->S.valS k<256 ^ qL k:=Dm.wf.v;have HA:=zh (zA D8 (zA EB (zA Cn (zA ME (zA PN Hj)))));have C6:=zh ((M8.trans Ci).trans Cd);have HI:=zh it;have TC:=zh (zA ks4 (zA kb4 kc4));have HW5:=zh hs5;have HG:=zh Dm.gen.2;have esb:w.heap.size=sb:=D8.symm;have ebb:sb+1+1=bb:=zo
 have ecb:sb+1+1+1=cb:=zo;have epb:W3.heap.size=pb:=ME.symm;have eWb:W.heap.size+1=bb:=EB.symm;have BY:sb<bb/\bb<cb/\cb<pb/\pb<W4.heap.size:=zo
 clear D8 EB Cn ME PN Hj SZ M8 Ci Cd it ks4 kb4 kc4 kp ks kb kc Dm HX hs5
 gi_wp2
 have DU:=zh BY;clear esb ebb ecb epb eWb BY hW CR
 refine YW rfl zo (gf:=195) (lb:=#[zP pb]) rfl trivial (enters_of Tryz.func195 zab rfl) HI (by intro x hx;simp only [zms] at hx;have:=DU.o;omega) (by rintro k W av ⟨S',ib,_,_,rfl,_⟩;rfl)
  (fun k W=>zv [bb] W4 W/\W.heap[bb]?=some (.cells (Y7 123 (ww S k)) 5 (0,0)))
  (fun c k W=>False)
  (fun k A B h Cq=>⟨h.1.afar Cq,(Cq.block _ (zq DU.o)).trans h.2⟩)
  (fun c k A B h Cq=>h)
  ⟨zv.refl _ _,TC.2.1⟩ (fun k A h=>⟨S,⟨HW5⟩,(h.1.block sb (zq DU.o) zak).trans TC.1⟩) ?round ?done (fun D c k W hD hk h hK=>h.elim)
 case round =>
  intro l' k W' av Dj DI hI hk Lz _;obtain ⟨S',ib,TN,T8,rfl,_⟩:=Lz;obtain ⟨ET,Md⟩:=hI;have Nm:=(ET.block sb (zq DU.o) zak).trans TC.1;have Kz:=(ET.block cb (zq DU.o) zak).trans TC.2.2
  have ev:S'.valS k=S.valS k:=by
   rw [T8] at Nm;injection Nm with Nm;injection Nm with Nm;exact mz Nm k hk
  rw [ev];obtain ⟨fv,Nf⟩:=zE (Jm k pb ib);have Nc:fv.oneCell'=true:=by rw [Nf];exact dJ _ _ _
  rw [<- Nf];have HX:=zh (zA ET (zA Md (zA Kz Dj)));clear ET Md Kz T8 Nm ev Nf TN
  gi_wp2_with (refine YX rfl 255 (.tmp 6) (.tmp 13) rfl #[.int .i64 0,.int .u64 0,.nilFunc] #[.int .i64 (qL k:Int),.int .u64 (S.valS k:Int),fv] W'.heap.size 3 rfl rfl rfl dL rfl rfl (dK Nc) ?_)
  have Sy:=xo W' (.cells #[.int .i64 (qL k:Int),.int .u64 (S.valS k:Int),fv] 255);have FF:=(zv.refl [] W').alloc (.cells #[.int .i64 (qL k:Int),.int .u64 (S.valS k:Int),fv] 255);refine ⟨FF.mo,fun W5 DF=>?_⟩;have nl:∀ q,q<W'.heap.size+1->q≠l'->q∉[l']:=fun q hq hn=>by simp only [zms];exact hn
  have hl2':l'<W'.heap.size:=DI;have Ka:=(DF.block W'.heap.size (zz Sy) zad).trans Sy;have Mh:=(DF.block cb (qe (zz HX.2.2.1) FF.size) zak).trans ((FF.block cb (zz HX.2.2.1) zaa).trans HX.2.2.1);have Wq:=(DF.block bb (qe (zz HX.2.1) FF.size) zak).trans ((FF.block bb (zz HX.2.1) zaa).trans HX.2.1);have cp:=VO Wq 0 123 123 (Zd k) (qL k) (S.valS k) zo zo (aJ k).1 (aJ k).2 (zq (J4 hk)) (HW5 k hk);rw [yn] at cp;have CP:=zh cp;have HF:=zh (zv.then (HX.1) (FF.mono (L':=[]) zaa) zaa |>.tn DF HX.2.2.2);have c0:=zM Mh 0;have d0:=zM Ka 0;have d1:=zM Ka 1;simp only [tA1,tA3,tA2] at c0 d0 d1;have ecb:bb+1=cb:=by have:=DU.o;have:=HA.o;omega
  clear cp Wq Mh Ka Sy FF nl DF
  gi_wp2
  refine ⟨trivial,(callsIn_wide.2 CP).mono ?_⟩;rintro e w6 ⟨rfl,FD,EP⟩
  gi_wp2
  exact ⟨EP,HF.trans EP,FD⟩
 case done =>
  rintro D W' hD ⟨ET,Md⟩ hK;have Nm:=(ET.block sb (zq DU.o) zak).trans TC.1;have Kz:=(ET.block cb (zq DU.o) zak).trans TC.2.2;have g0:=xj.cell Nm (i:=0) zo
  change W'.cell? ⟨sb,0,none⟩=some (.int .u64 (S.gen:Int)) at g0
  have c0:=zM Kz 0;simp only [tA1,tA3] at c0;have ecb:bb+1=cb:=by have:=DU.o;have:=HA.o;omega
  have cp:=VO Md 0 123 123 115 8 S.gen zo zo zo zo zo (by have:=HG.o;rw [show (256:Nat) ^ 8=18446744073709551616 from by decide];exact this);rw [yn] at cp
  change Calls _ _ #[_,.int .i64 115,.int .i64 8,_] W' _ at cp
  have CP:=zh cp;have HX:=zh (zA ET (zA Kz hK));clear cp Md ET Nm Kz hK
  gi_wp2
  refine ⟨trivial,(callsIn_wide.2 CP).mono ?_⟩;rintro e w6 ⟨rfl,FD,EP⟩;have WA:=(EP.block cb (zz HX.2.1) zad).trans HX.2.1;have c6:=zM WA 0;simp only [tA1,tA3] at c6
  have Cm:Yc w6 (some ⟨bb,0,none⟩) 123 123 (dh S):=⟨xd _,by unfold maxLen;omega,(fun e=>by cases e),fun x hx _=>by
   injection hx with hx;subst hx;exact ⟨bb,0,rfl,fun i hi=>⟨by rw [yn,zM FD,xL hi];rfl,fQ S i⟩⟩⟩
  have cs:=af Cm zo 6 zo
  change Calls _ _ #[.int .u8 6,_] w6 _ at cs
  have CS:=zh cs;have HC6:=zh EP;have hK6:=(EP.block D (zz HX.2.2) zak).trans HX.2.2;have HK6:=zh hK6;clear EP FD WA Cm cs c0 g0 CP hK6
  gi_wp2
  refine ⟨trivial,(callsIn_wide.2 CS).mono ?_⟩;rintro e w7 ⟨rfl,FQ,E9⟩;have HK7:=zh ((E9.block D (zz HK6) zaa).trans HK6);have HB7:=zh (zA FQ E9);clear FQ E9 CS c6
  gi_wp2
  refine ⟨zaa,.inl ⟨_,_,rfl,run_takeDeferred HK7.o,?_⟩⟩;have hD6:D<w6.heap.size:=zz HK6.o;have TS:zv [bb] W4 w6:=HX.1.trans HC6.o;refine ⟨.tuple #[zS w6.heap.size 128 128,.int .i64 0],by simp [results,Tryz.results90,go_sem],w6.heap.size,rfl,?_,?_,?_⟩
  ·exact (World.putObj_heap_other zo).trans HB7.1
  ·exact qh C6.size TS.size
  ·refine ((C6.tn TS (zq HA.o)).trans HB7.2).tn (Yd (l:=D) _) (zq C6.size)
end Go.Proofs.YtegpiomkmfhadaaGreat
namespace Go.Proofs.YtegpiomkmfhadaaGreat
open Go.RowKit Go.Shelf
attribute [local go_sem] Oper.semAt_some
variable {w:World} {b off cap k:Nat} {S:xj}
theorem kM {n:Nat} (hn:1<=n) (Fh:n<=1000) (hb:∀ i,i<n->w.cell? ⟨b,off+i,none⟩=some (.int .u8 0)) :
  zC 202 #[.slice (some ⟨b,off,none⟩) n cap] w fun e w'=>e = .returned (.int .u8 0)/\w=w':=by
 have c0:=hb 0 zo;rw [Nat.add_zero] at c0;have HB:=zh hb;have:¬ (n:Int)<1:=zo
 have:(0:Int)<(n:Int):=zo;clear hb;go_enter Tryz.func202,Tryz.ntmps202;go_wp2_with fail;go_loopg [3,4] (n - 1) (fun gg m s wr=>∃ k:Nat,gg=n - k/\1<=k/\k<=n/\m = .int .u8 0/\s = zI k/\w=wr)
 case atStart=>exact ⟨1,rfl,xd _,hn,rfl,zac,rfl⟩
 case round =>
  obtain ⟨k,DM,Gs,DH,rfl,rfl,rfl⟩:=hrel;by_cases hk:k<n
  ·have:=HB k hk
   have:(k:Int)<(n:Int):=zo;go_wp2_with fail;go_roundg (n - (k+1))
   case measure=>omega
   case rel=>exact ⟨k+1,rfl,zo,zo,zaa,zac,rfl⟩
  ·obtain rfl:k=n:=zo
   go_wp2_with fail;go_ret;exact ⟨rfl,rfl⟩
def Xh:xj:=xj.ofV fun _=>0
def YA:Array Value:=#[.int .u64 0,.int .u32 0,.int .u32 0,.int .u32 0,.int .u32 0,.int .u32 0,.int .u32 0,.int .u32 0,.int .u32 0,.int .u32 0,.int .u64 0,.int .u64 0,.int .u64 0,.int .u64 0,.int .u64 0,.int .u64 0,.int .u64 0,.int .u64 0]
theorem q9:Xh.row=YA:=by
 apply yM;intro i;by_cases hi:i<18
 ·rw [xj.row,Qn hi,Yi _ hi,Xh,my]
  match i,hi with
  | 0,_=>rfl
  | 1,_=>rfl
  | 2,_=>rfl
  | 3,_=>rfl
  | 4,_=>rfl
  | 5,_=>rfl
  | 6,_=>rfl
  | 7,_=>rfl
  | 8,_=>rfl
  | 9,_=>rfl
  | 10,_=>rfl
  | 11,_=>rfl
  | 12,_=>rfl
  | 13,_=>rfl
  | 14,_=>rfl
  | 15,_=>rfl
  | 16,_=>rfl
  | 17,_=>rfl
  | n+18,h=>exact absurd h zo
 ·rw [yo (by rw [xj.row_size];omega),yo (by show 18<=i;omega)]
def Jg (S:xj) (k:Nat):xj:=xj.ofV fun i=>if i<k then S.valS i else 0
theorem QC (S:xj) (k i:Nat):(Jg S k).valS i=if i<k then S.valS i else 0:=my _
theorem Q4 (S:xj) (hk:k<18):(Jg S (k+1)).valS k=S.valS k:=by rw [QC,if_pos zo]
theorem X8 (S:xj) : ∀ i,i<18->i≠k->(Jg S (k+1)).valS i=(Jg S k).valS i:=fun i hi h=>by
 rw [QC,QC];by_cases h2:i<k
 ·rw [if_pos h2,if_pos zo]
 ·rw [if_neg h2,if_neg zo]
theorem uD (h:S.Ok) (k:Nat):(Jg S k).Wf:=⟨fun i hi=>by
 rw [QC]
 split
 ·exact h.wf.v i hi
 ·exact Nat.pow_pos zo⟩
theorem rH (S:xj):(Jg S 18).row=S.row:=XK fun i hi=>by rw [QC,if_pos hi]
theorem im {f:zF} (Dm:S.Ok) (hb:zB w b off 128 f) (hcap:128<=cap) (F8:cap<=9223372036854775807) (hf:∀ i,i<128->f i=Y8 S i) :
  zC 152 #[.slice (some ⟨b,off,none⟩) 128 cap] w fun e w'=>e = .returned (.tuple #[.agg S.row,.int .i64 0])/\zv [] w w':=by
 refine (callsIn_wide (n:=8)).1 ?_;refine callsIn_of_wp_marks Tryz.func152 rfl trivial ?_ rfl;simp only [Tryz.ntmps152,List.size_toArray,yu,List.length_nil,Nat.reduceAdd,Nat.reduceSub,Array.replicate_succ,Array.replicate_zero,List.push_toArray,yE,yy,yK];have hp:qF f:=J3 (fun i hi=>(hf i hi).symm) (rE S);have Fv:f 0=6:=by rw [hf 0 zo];exact kK _
 have Im:∀ i,i<123->f (1+i)=dh S i:=fun i hi=>by rw [hf (1+i) zo];exact kL _ hi
 have Ef:=(zv.refl [] w).alloc (.cells YA 56);have k0:=xo w (.cells YA 56);have co:=YM (hb.chg Ef) hcap F8 hp;rw [Fv] at co;have CO:=zh co;have HB:=zh Im;have D3:=zh Dm;have KL:=zh (zA k0 Ef);clear Ef k0 co hp Fv Im hb hf Dm;unfold YA at CO KL
 gi_wp2
 refine ⟨trivial,(callsIn_wide.2 CO).mono ?_⟩;clear CO;rintro e w1 ⟨g,c,rfl,q1,q2,q3,q4,q5,q6⟩;have HO:=zh (zA q1 (zA q2 (zA q3 (zA q4 (zA q5 q6)))));have Da:=(zv.refl [] w1).alloc (.cells #[zS g 123 c] 81);have kA:=xo w1 (.cells #[zS g 123 c] 81);have dA:=zM kA 0;simp only [tA1,tA3] at dA;have Kx:=q5.chg Da
 have cM:=kM (b:=g) (off:=108) (n:=7) (cap:=c - 108) zo zo (w:=w1.alloc (.cells #[zS g 123 c] 81)) (fun i hi=>by
  have:=(Kx (108+i) zo).1;rw [yn] at this;rw [this]
  show some (Value.int .u8 ((f (1+(108+i)):Nat):Int))=_
  rw [HB.o _ zo,rD S zo zo];rfl)
 have CM:=zh cM;have HA:=zh (zA Da (zA kA Kx));have ic:¬ ((c:Int)<115):=zo
 clear q1 q2 q3 q4 q5 q6 cM Da kA Kx
 gi_wp2
 generalize w1.alloc (.cells #[zS g 123 c] 81)=W at *;refine ⟨trivial,(callsIn_wide.2 CM).mono ?_⟩;clear CM;rintro e w' ⟨rfl,rfl⟩;have hcB:=(zv.refl [] W).alloc (.cells YA 56);have kB:=xo W (.cells YA 56);have IN:=zh (zA hcB kB);have sW:W.heap.size<(W.alloc (.cells YA 56)).heap.size:=zaa
 unfold YA at IN;clear hcB kB sW
 gi_wp2
 obtain ⟨W2,FP⟩:=zE (W.alloc (.cells #[.int .u64 0,.int .u32 0,.int .u32 0,.int .u32 0,.int .u32 0,.int .u32 0,.int .u32 0,.int .u32 0,.int .u32 0,.int .u32 0,.int .u64 0,.int .u64 0,.int .u64 0,.int .u64 0,.int .u64 0,.int .u64 0,.int .u64 0,.int .u64 0] 56));rw [<- FP] at IN ⊢;have LH:W2.heap.size=W.heap.size+1:=by rw [FP];simp
 clear FP;refine ⟨trivial,(callsIn_wide.2 (OA (w:=W2) (sb:=W.heap.size))).mono ?_⟩;rintro e w' ⟨rfl,rfl⟩;have Ci:zv [] W2 (W2.alloc (.cells #[zP W.heap.size] 252)):=(zv.refl _ _).alloc _;have kp:=xo W2 (.cells #[zP W.heap.size] 252);have Hj:(W2.alloc (.cells #[zP W.heap.size] 252)).heap.size=W2.heap.size+1:=zaa
 have zeq:(#[.int .u64 0,.int .u32 0,.int .u32 0,.int .u32 0,.int .u32 0,.int .u32 0,.int .u32 0,.int .u32 0,.int .u32 0,.int .u32 0,.int .u64 0,.int .u64 0,.int .u64 0,.int .u64 0,.int .u64 0,.int .u64 0,.int .u64 0,.int .u64 0]:Array Value)=Xh.row:=q9.symm;rw [zeq] at IN KL HO;have ks3:=Ci.kp IN.2;have NP:=IN.1.trans Ci;have kA3:=NP.kp HA.2.1;have Wo:=HA.2.2.chg NP;have K0:=HA.1.trans NP;have kr3:=(HO.2.2.2.2.2.trans K0).kp KL.1;have Fs:=KL.2.trans (HO.2.2.2.2.2.trans K0);have hsg:=HO.2.2.2.1;have hsr:w.heap.size+1<=g:=by have:=HO.2.2.1;simpa using this
 have hsW:w1.heap.size+1<=W.heap.size:=zz HA.2.1;generalize W2.alloc (.cells #[zP W.heap.size] 252)=W3 at *;obtain ⟨r,hr⟩:=zE w.heap.size;obtain ⟨bc,Ky⟩:=zE w1.heap.size;obtain ⟨sb,D8⟩:=zE W.heap.size;obtain ⟨pb,ME⟩:=zE W2.heap.size;rw [<- D8] at kp ks3 LH hsW;rw [<- ME] at kp LH Hj;rw [<- Ky] at kA3 hsg hsW;rw [<- hr] at kr3 hsr;have it:=Jn 7 pb sb [sb] W3 ((zM kp 0).trans rfl) zae (zz ks3) zo (by intro x hx;simp only [zms] at hx;subst hx;exact zz ks3);have HL:=zh (show r<g/\g<bc/\bc<sb/\sb<pb/\pb<W3.heap.size from ⟨zo,zo,zo,zo,zo⟩);have Cj:=zh Fs;have H3:=zh (zA ks3 (zA kA3 (zA Wo (zA kr3 kp))));have HR:=zh hr;have HI:=zh it;have e1:=hr.symm;have e2:=Ky.symm;have e3:=D8.symm;have e4:=ME.symm;have HQ:=zh (zA HO.1 HO.2.1);clear Ci kp Hj zeq ks3 NP kA3 Wo K0 kr3 Fs hsg hsr hsW hr Ky D8 ME it LH IN HA HO KL dA
 gi_wp2
 clear e1 e2 e3 e4;have wfK:=fun k=>uD D3 k
 refine YW rfl zo (gf:=195) (lb:=#[zP pb]) rfl trivial (enters_of Tryz.func195 zab rfl) HI (by intro x hx;simp only [zms] at hx;have:=HL.o;omega) (by rintro k W av ⟨S',ib,_,_,rfl,_⟩;rfl)
  (fun k W=>zv [sb] W3 W/\W.heap[sb]?=some (.cells (Jg S k).row 56 (0,0)))
  (fun c k W=>False)
  (fun k A B h Cq=>⟨h.1.afar Cq,(Cq.block _ (zq HL.o)).trans h.2⟩)
  (fun c k A B h Cq=>h)
  ⟨zv.refl _ _,H3.1⟩ (fun k A h=>⟨Jg S k,wfK k,h.2⟩) ?round ?done (fun D c k W hD hk h hK=>h.elim)
 case round =>
  intro l' k W' av Dj DI hI hk Lz N6;obtain ⟨S',ib,TN,T8,rfl,Kb⟩:=Lz;obtain ⟨ET,S3⟩:=hI;obtain ⟨rl,N6⟩:=N6;obtain ⟨fv,Nf⟩:=zE (Jm k pb ib);have Nc:fv.oneCell'=true:=by rw [Nf];exact dJ _ _ _
  rw [<- Nf];have nb:∀ q,q<W3.heap.size->q≠sb->q∉[sb]:=fun q _ h=>by simpa using h
  have kcI:=(ET.block bc (zq HL.o) (nb _ (zq HL.o) (zq HL.o))).trans H3.2.1;have Md:=H3.2.2.1.chg ET (nb _ (zq HL.o) (zq HL.o));have kpI:=(ET.block pb (zq HL.o) (nb _ (zq HL.o) (zq HL.o))).trans H3.2.2.2.2;have HX:=zh (zA ET (zA S3 (zA kcI (zA Md kpI))));have HIB:=zh Kb;have HFV:=zh Nf;have GK:=zh N6;clear ET S3 kcI Md kpI T8 Nf TN Kb nb N6
  gi_wp2_with (refine YX rfl 255 (.tmp 9) (.tmp 35) rfl #[.int .i64 0,.int .u64 0,.nilFunc] #[.int .i64 (qL k:Int),.int .u64 (S'.valS k:Int),fv] W'.heap.size 3 rfl rfl rfl dL rfl rfl (dK Nc) ?_)
  have Sy:=xo W' (.cells #[.int .i64 (qL k:Int),.int .u64 (S'.valS k:Int),fv] 255);have FF:=(zv.refl [] W').alloc (.cells #[.int .i64 (qL k:Int),.int .u64 (S'.valS k:Int),fv] 255);refine ⟨FF.mo,fun W5 DF=>?_⟩;have hl2':l'<W'.heap.size:=DI;have Ka:=(DF.block W'.heap.size (zz Sy) zad).trans Sy;have up:∀ {q:Nat} {o:Obj},q≠l'->W'.heap[q]?=some o->W5.heap[q]?=some o:=fun {q o} BU h=>(DF.block q (qe (zz h) FF.size) (by simpa using BU)).trans ((FF.block q (zz h) zaa).trans h);have Mh:=up (zq HL.o) HX.2.2.1;have hpb5:=up (zq HL.o) HX.2.2.2.2;have hsb5:=up (zq HL.o) HX.2.1;have Ws:zB W5 g 0 123 (fun i=>f (1+i)):=(HX.2.2.2.1.chg FF).chg DF (by simp only [zms];have:=HL.o;omega)
  have En:2<=k->W5.heap[ib]?=some (.cells #[.int .i64 (if k<10 then ((k - 2:Nat):Int) else ((k - 10:Nat):Int))] 3 (0,0)):=fun h2=>up (fun e=>by
   have:=(HIB h2).1;rw [e,GK.o] at this;cases this) (HIB h2).1
  have LZ:Zu (fun i=>f (1+i)) (Zd k) (qL k)=S.valS k:=by
   rw [<- rB D3.o hk];exact Zc _ fun i hi=>HB _ (zq (J4 hk))
  have cg:=Q0 Ws HQ.1 (by have:=HQ.2;unfold maxLen at this;omega) zo (Zd k) (qL k) (aJ k).1 (aJ k).2 (zq (J4 hk));rw [LZ] at cg;have CG:=zh cg;have c0:=zM Mh 0;have d0:=zM Ka 0;have d2:=zM Ka 2;have p0:=zM hpb5 0;simp only [tA1,tA3,tA2] at c0 d0 d2 p0;have Ku:=zh (zA ((HX.1.then (FF.mono (L':=[]) zaa) zaa).tn DF Dj:zv [sb] W3 W5) (zA hsb5 (zA En p0)));clear cg Mh Ka Sy FF DF up hpb5 hsb5 Ws En LZ HX HIB GK Nc
  gi_wp2
  refine ⟨trivial,(callsIn_wide.2 CG).mono ?_⟩;rintro e W7 ⟨rfl,rfl⟩;clear CG c0 d0;by_cases h0:k=0
  ·subst h0
   have RY:fv = .func (.func 197) #[] #[zP pb]:=HFV.o;rw [RY] at d2;have cS:=ux (w:=W5) (x:=S.valS 0) Ku.2.2.2 Ku.2.1
   skip
   have CS:=zh cS;clear cS
   gi_wp2
   refine ⟨trivial,(callsIn_wide.2 CS).mono ?_⟩;rintro e w8 ⟨⟨v8,rfl⟩,GM,DO⟩;have HE:=zh (zA GM DO);clear GM DO CS
   gi_wp2
   refine ⟨HE.2,Ku.1.trans HE.2,?_⟩;refine HE.1.trans ?_;have e:=Q2 (S:=Jg S 0) (S':=Jg S (0+1)) (k:=0) zo (X8 S);rw [Q4 S zo] at e;unfold n8 at e;rw [if_pos rfl] at e;exact congrArg (fun r=>some (Obj.cells r 56 (0,0))) e
  ·by_cases h1:k=1
   ·subst h1
    have RY:fv = .func (.func 198) #[] #[zP pb]:=HFV.o;rw [RY] at d2;have cS:=uy (w:=W5) (x:=S.valS 1) Ku.2.2.2 Ku.2.1 (by have:=D3.wf.v 1 zo;change S.valS 1<256 ^ 4 at this;omega)
    skip
    have CS:=zh cS;clear cS
    gi_wp2
    refine ⟨trivial,(callsIn_wide.2 CS).mono ?_⟩;rintro e w8 ⟨⟨v8,rfl⟩,GM,DO⟩;have HE:=zh (zA GM DO);clear GM DO CS
    gi_wp2
    refine ⟨HE.2,Ku.1.trans HE.2,?_⟩;refine HE.1.trans ?_;have e:=Q2 (S:=Jg S 1) (S':=Jg S (1+1)) (k:=1) zo (X8 S);rw [Q4 S zo] at e;unfold n8 at e;rw [if_neg zo,if_pos zo] at e;exact congrArg (fun r=>some (Obj.cells r 56 (0,0))) e
   ·by_cases h2:k<10
    ·have IL:=Ku.2.2.1 zo
     rw [if_pos h2] at IL;have ci:=zM IL 0;simp only [tA1,tA3] at ci;have RY:fv = .func (.func 199) #[] #[zP pb,zP ib]:=by rw [HFV.o];unfold Jm;rw [if_neg h0,if_neg h1,if_pos h2]
     rw [RY] at d2;have US:2+(k - 2)=k:=zo;have cS:=uz (j:=k - 2) zo (w:=W5) (x:=S.valS k) Ku.2.2.2 ci Ku.2.1 (by have:=D3.wf.v k hk;rw [show qL k=4 from by unfold qL;rw [if_neg h0,if_pos h2]] at this;change S.valS k<256 ^ 4 at this;omega);rw [US] at cS;clear ci IL US;have CS:=zh cS;clear cS
     gi_wp2
     refine ⟨trivial,(callsIn_wide.2 CS).mono ?_⟩;rintro e w8 ⟨⟨v8,rfl⟩,GM,DO⟩;have HE:=zh (zA GM DO);clear GM DO CS
     gi_wp2
     refine ⟨HE.2,Ku.1.trans HE.2,?_⟩;refine HE.1.trans ?_;have e:=Q2 (S:=Jg S k) (S':=Jg S (k+1)) (k:=k) hk (X8 S);rw [Q4 S hk] at e;unfold n8 at e;rw [if_neg h0,if_pos h2] at e;exact congrArg (fun r=>some (Obj.cells r 56 (0,0))) e
    ·have IL:=Ku.2.2.1 zo
     rw [if_neg h2] at IL;have ci:=zM IL 0;simp only [tA1,tA3] at ci;have RY:fv = .func (.func 200) #[] #[zP pb,zP ib]:=by rw [HFV.o];unfold Jm;rw [if_neg h0,if_neg h1,if_neg h2]
     rw [RY] at d2;have US:10+(k - 10)=k:=zo;have cS:=uB (j:=k - 10) zo (w:=W5) (x:=S.valS k) Ku.2.2.2 ci Ku.2.1;rw [US] at cS;clear ci IL US;have CS:=zh cS;clear cS
     gi_wp2
     refine ⟨trivial,(callsIn_wide.2 CS).mono ?_⟩;rintro e w8 ⟨⟨v8,rfl⟩,GM,DO⟩;have HE:=zh (zA GM DO);clear GM DO CS
     gi_wp2
     refine ⟨HE.2,Ku.1.trans HE.2,?_⟩;refine HE.1.trans ?_;have e:=Q2 (S:=Jg S k) (S':=Jg S (k+1)) (k:=k) hk (X8 S);rw [Q4 S hk] at e;unfold n8 at e;rw [if_neg h0,if_neg h2] at e;exact congrArg (fun r=>some (Obj.cells r 56 (0,0))) e
 case done =>
  rintro D W' hD ⟨ET,S3⟩ hK;rw [rH] at S3;have nb:∀ q,q<W3.heap.size->q≠sb->q∉[sb]:=fun q _ h=>by simpa using h
  have kcI:=(ET.block bc (zq HL.o) (nb _ (zq HL.o) (zq HL.o))).trans H3.2.1;have krI:=(ET.block r (zq HL.o) (nb _ (zq HL.o) (zq HL.o))).trans H3.2.2.2.1;have Md:=H3.2.2.1.chg ET (nb _ (zq HL.o) (zq HL.o))
  have LZ:Zu (fun i=>f (1+i)) 115 8=S.gen:=by
   rw [<- nY D3.o];exact Zc _ fun i hi=>HB _ zo
  have cg:=Q0 Md HQ.1 (by have:=HQ.2;unfold maxLen at this;omega) zo 115 8 zo zo zo;rw [LZ] at cg
  change Calls _ _ #[_,.int .i64 115,.int .i64 8] W' _ at cg
  have CG:=zh cg;have c0:=zM kcI 0;simp only [tA1,tA3] at c0;have g0:=xj.cell S3 (i:=0) zo
  change W'.cell? ⟨sb,0,none⟩=some (.int .u64 (S.gen:Int)) at g0
  have cR:=aK (w:=W') D3.o;have HS:=zh (zA S3 (zA krI (zA ET (zA hK cR))));have ig:((S.gen:Int) != (S.gen:Int))=false:=zaa
  clear S3 krI ET hK cR cg LZ Md kcI nb H3 HI wfK
  gi_wp2
  refine ⟨trivial,(callsIn_wide.2 CG).mono ?_⟩;rintro e W7 ⟨rfl,rfl⟩;clear CG c0
  gi_wp2_with (refine JK (S:=S) (.tmp 7) rfl zab (k:=sb) (o:=0) rfl (xj.cells HS.1) ?_)
  refine ⟨trivial,(callsIn_wide.2 HS.2.2.2.2).mono ?_⟩;rintro e w' ⟨rfl,rfl⟩;have DO:zv [] W' (W'.alloc (.cells S.row 56)):=(zv.refl _ _).alloc _;have T9:=(DO.block sb (zz HS.1) zaa).trans HS.1;have hr8:=(DO.block r (zz HS.2.1) zaa).trans HS.2.1;have hD8:=(DO.block D (zz HS.2.2.2.1) zaa).trans HS.2.2.2.1;have H8:=zh (zA T9 (zA hr8 (zA hD8 DO)));clear g0 T9 hr8 hD8 DO;generalize W'.alloc (.cells S.row 56)=W8 at *
  gi_wp2_with (first
   | (refine XL (S:=S) rfl (.tmp 7) rfl (k:=sb) (o:=0) rfl (xj.cells H8.1) ?_)
   | (refine J6 (t:=56) (T:=56) (b:=r) (o:=0) (n:=18) (N:=18) (V:=Xh.cellV) (U:=S.cellV) rfl (.tmp 2) (.tmp 63) rfl rfl rfl H8.2.1 zo Yv (fun i _=>S.cell_one i) ?_;intro w9 EF FU;have H9:=zh (zA EF FU);clear EF FU))
  have EF:=H9.1;rw [YF] at EF;have hD9:=(H9.2.block D (zz H8.2.2.1) (by simp only [zms];have:=HL.o;omega)).trans H8.2.2.1;have hrZ:=(World.putObj_heap_other (w:=w9) (o := .deferred none) (show r≠D by have:=HL.o;omega)).trans EF;refine ⟨zaa,.inl ⟨_,_,rfl,run_takeDeferred hD9,?_⟩⟩;have hld:=QB (xj.cells hrZ);refine ⟨.tuple #[.agg S.row,.int .i64 0],qG (a:=2) (b:=3) zab rfl hld,rfl,?_⟩;have Da:zv [r,sb] W3 w9:=(HS.2.2.1.mono zax).trans ((H8.2.2.2.mo).trans (H9.2.mono zax));exact (Cj.then Da (fun q hq=>by simp only [ya,yk,or_false] at hq;have:=HL.o;have:=HR.o;rcases hq with e | e <;> exact .inr zo)).tn (Yd (l:=D) _) (zq Cj.size)
end Go.Proofs.YtegpiomkmfhadaaGreat
